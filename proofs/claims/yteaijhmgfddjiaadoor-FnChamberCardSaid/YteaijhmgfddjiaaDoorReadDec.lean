/- The program's reading of a decimal text. Contract of ReadDecimal. -/
import Derived.Test.YteaijhmgfddjiaaDoorNumS
import Derived.Test.YteaijhmgfddjiaaDoorLay
import Derived.Test.YteaijhmgfddjiaaDoorReadL
import Derived.Lib.AtoiErrMem
import Derived.Test.YteaijhmgfddjiaaDoorStrEq
set_option linter.unusedSimpArgs false
set_option linter.unnecessarySimpa false
set_option linter.unusedVariables false
set_option maxRecDepth 100000
namespace Go.Proofs.YteaijhmgfddjiaaDoor
open Go.RowKit

/-- The body, as the library trims it. -/
theorem trim_body (l : List UInt8) : Lib.trimPrefix l [45] = body l := by
  unfold Lib.trimPrefix body Lib.hasPrefix
  cases l with
  | nil => simp
  | cons b r =>
    by_cases h : b = 45
    · subst h; simp
    · have h2 : ¬ 45 = b := fun e => h e.symm
      simp [h, h2]
/-- What ParseInt hands back: the number or an error. -/
theorem parse_any (s : ByteArray) (w : World) (hs : s.size ≤ 1048576) (hL : Lay w) :
    Calls Tryd.prog 44 #[.string s, .int .i64 10, .int .i64 64] w fun e w' =>
      ((∃ v, Lib.parseIntB 64 s.data.toList = .ok v ∧ e = .returned (.tuple #[.int .i64 v, .nilIface])) ∨
       ((∀ v, Lib.parseIntB 64 s.data.toList ≠ .ok v) ∧ ∃ v t p, e = .returned (.tuple #[.int .i64 v, .iface t p]))) ∧ Below w.heap.size w w' := by
  cases hp : Lib.parseIntB 64 s.data.toList
  · rename_i v
    refine (Tryd.strconv_ParseInt_10_at64_ok s (by omega) v hp w).mono ?_
    rintro e w' ⟨rfl, hw⟩
    refine ⟨.inl ⟨v, rfl, rfl⟩, ?_⟩
    rcases hw with rfl | ⟨t, rfl⟩
    · exact Below.refl _ _
    · exact Lib.bytesWorld_below w _ t
  · obtain ⟨ev, hv, hev⟩ := hL.bad
    refine (Any.strconv_ParseInt_10_at64_syntax Tryd.laysC174 s (by omega) hp ev w hv hev).mono ?_
    rintro e w' ⟨N, rfl, _, _, hb⟩
    exact ⟨.inr ⟨fun v h => (by cases h), _, _, _, rfl⟩, hb⟩
  · obtain ⟨ev, hv, hev⟩ := hL.far
    refine (Any.strconv_ParseInt_10_at64_range Tryd.laysC174 s (by omega) hp ev w hv hev).mono ?_
    rintro e w' ⟨N, rfl, _, _, hb⟩
    exact ⟨.inr ⟨fun v h => (by cases h), _, _, _, rfl⟩, hb⟩

theorem itoa_ok {v : Int} (h18 : (body (Lib.itoa v)).length ≤ 18) : numOk (Lib.itoa v) = true := by
  refine decide_eq_true ?_
  by_cases g : v < 0
  · rw [itoa_negs g] at h18 ⊢
    have hb : body (45 :: Lib.decDigits v.natAbs) = Lib.decDigits v.natAbs := by simp [body]
    rw [hb] at h18 ⊢
    refine ⟨(dec_canon _).1, h18, fun _ e => ?_⟩
    have e0 : Lib.decDigits 0 = [48] := by rw [Lib.decDigits, dif_pos (by omega)]; rfl
    have := dec_inj (e.trans e0.symm)
    omega
  · rw [itoa_pos (by omega)] at h18 ⊢
    have hb : body (Lib.decDigits v.natAbs) = Lib.decDigits v.natAbs := if_neg (dec_head _)
    rw [hb] at h18 ⊢
    exact ⟨(dec_canon _).1, h18, fun e => absurd e (dec_head _)⟩
/-- A text of at most 18 digits that is no number's own is not written again. -/
theorem dec_again {l : List UInt8} (h0 : body l ≠ []) (h18 : (body l).length ≤ 18) {v : Int} (hp : Lib.parseIntB 64 l = .ok v) : Lib.itoa v = l ↔ numOk l = true := by
  constructor
  · intro h
    rw [← h] at h18 ⊢
    exact itoa_ok h18
  · intro h
    have := parse_num h
    rw [hp] at this
    cases this
    exact num_itoa h

set_option maxHeartbeats 2000000 in
theorem ReadDecimal_any (s : ByteArray) (w : World) (hs : s.size ≤ 1048576) (hL : Lay w) :
    Calls Tryd.prog 34 #[.string s] w fun e w' => e = .returned (.tuple #[.int .i64 (numV s.data.toList), .bool (numOk s.data.toList)]) ∧ Below w.heap.size w w' := by
  have HLY := Lib.hid hL
  have HT := Tryd.strings_TrimPrefix s ⟨#[45]⟩ w
  rw [show (⟨#[45]⟩ : ByteArray).data.toList = [45] from rfl, trim_body] at HT
  have HTR := Lib.hid HT
  obtain ⟨bd, hbd⟩ : ∃ b, b = (⟨(body s.data.toList).toArray⟩ : ByteArray) := ⟨_, rfl⟩
  have hbs : bd.size = (body s.data.toList).length := by rw [hbd]; simp [ByteArray.size]
  rw [← hbd] at HTR
  clear HT hL hbd
  by_cases e0 : bd.size = 0
  · have HN := Lib.hid (num_no_empty (l := s.data.toList) (List.eq_nil_of_length_eq_zero (by omega)))
    clear hbs
    go_enter Tryd.func34, Tryd.ntmps34
    go_wp2_with fail
    refine HTR.out.mono ?_
    rintro e w1 ⟨rfl, rfl⟩
    go_wp2
    go_ret2
    exact ⟨by rw [HN.out.1, HN.out.2]; rfl, Below.refl _ _⟩
  have f1 : decide ((bd.size : Int) < 1) = false := by simp only [decide_eq_false_iff_not]; omega
  have f2 : decide (bd.size < 1) = false := by simp only [decide_eq_false_iff_not]; omega
  by_cases e1 : 18 < bd.size
  · have HN := Lib.hid (num_no_long (l := s.data.toList) (by omega))
    clear hbs
    have f3 : decide (18 < (bd.size : Int)) = true := by simp only [decide_eq_true_eq]; omega
    go_enter Tryd.func34, Tryd.ntmps34
    go_wp2_with fail
    refine HTR.out.mono ?_
    rintro e w1 ⟨rfl, rfl⟩
    go_wp2
    go_ret2
    exact ⟨by rw [HN.out.1, HN.out.2]; rfl, Below.refl _ _⟩
  have f3 : decide (18 < (bd.size : Int)) = false := by simp only [decide_eq_false_iff_not]; omega
  have f4 : decide (18 < bd.size) = false := by simp only [decide_eq_false_iff_not]; omega
  have HP := Lib.hid (parse_any s w hs HLY.out)
  have HNE := Lib.hid (show body s.data.toList ≠ [] from fun e => by rw [e] at hbs; exact e0 hbs)
  have H18 := Lib.hid (show (body s.data.toList).length ≤ 18 by omega)
  clear hbs
  go_enter Tryd.func34, Tryd.ntmps34
  go_wp2_with fail
  refine HTR.out.mono ?_
  rintro e w1 ⟨rfl, rfl⟩
  go_wp2_with fail
  refine HP.out.mono ?_
  rintro e w2 ⟨hq, hb2⟩
  have HB2 := Lib.hid hb2
  rcases hq with ⟨v, hv, rfl⟩ | ⟨hv, v, t, p, rfl⟩
  · have HA := Lib.hid (dec_again HNE.out H18.out hv)
    have HV := Lib.hid hv
    have HI := Lib.hid (show I64 v by have := Lib.parseIntB_bounds hv; simp only [I64, Lit.wf, IntKind.min, IntKind.max, IntKind.signed, IntKind.bits]; simp at this ⊢; omega)
    clear hv hb2
    go_wp2_with fail
    refine (Decimal_any v _ HI.out (HLY.out.mono HB2.out).tab).mono ?_
    rintro e w3 ⟨rfl, hb3⟩
    have HB3 := Lib.hid (HB2.out.trans (hb3.mono HB2.out.size))
    clear hb3
    by_cases hn : numOk s.data.toList = true
    · have he : decB v = s := by
        unfold decB
        rw [HA.out.2 hn]
        exact bytesB_of s
      have HE := Lib.hid (show numV s.data.toList = v by have := parse_num hn; rw [HV.out] at this; cases this; rfl)
      have HN := Lib.hid hn
      clear hn
      rw [he]
      go_wp2
      go_ret2
      exact ⟨by rw [HE.out, HN.out]; rfl, HB3.out⟩
    · have he : ((decB v).toList == s.toList) = false := by
        rw [strEq]
        refine decide_eq_false fun e => hn (HA.out.1 ?_)
        unfold decB at e
        rw [← e, bytesB_list]
      have HN := Lib.hid (show numOk s.data.toList = false ∧ numV s.data.toList = 0 by
        have : numOk s.data.toList = false := by simpa using hn
        exact ⟨this, by unfold numV; rw [this]; rfl⟩)
      clear hn
      go_wp2
      go_ret2
      exact ⟨by rw [HN.out.1, HN.out.2]; rfl, HB3.out⟩
  · have HN := Lib.hid (show numOk s.data.toList = false ∧ numV s.data.toList = 0 by
      cases hn : numOk s.data.toList with
      | true => exact absurd (parse_num hn) (hv _)
      | false => exact ⟨rfl, by unfold numV; rw [hn]; rfl⟩)
    clear hv hb2
    go_wp2
    go_ret2
    exact ⟨by rw [HN.out.1, HN.out.2]; rfl, HB2.out⟩

end Go.Proofs.YteaijhmgfddjiaaDoor
