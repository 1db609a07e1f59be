import Derived.Test.YtgdfecnpkjnhnaaGreatDoorFtZ12
import Derived.Test.YtgdfecnpkjnhnaaGreatDoorFtZ4
import Derived.Test.YtgdfecnpkjnhnaaGreatDoorFtZ2
import Derived.Test.YtgdfecnpkjnhnaaGreatDoorFtZ13
import Derived.Test.YtgdfecnpkjnhnaaGreatDoorFtZ3
import Derived.Lib.AtoiErrMem
/- The reference's reading of a decimal text. Contract of l01Number. -/
set_option linter.unusedSimpArgs false
set_option linter.unnecessarySimpa false
set_option linter.unusedVariables false
set_option maxRecDepth 100000
namespace Go.Proofs.YtgdfecnpkjnhnaaGreatDoor
open Go.RowKit

theorem num_no {l : List UInt8} (h : ¬ (Canon (body l) ∧ (body l).length ≤ 18 ∧ (l.head? = some 45 → body l ≠ [48]))) : numOk l = false ∧ numV l = 0 := by
  have : numOk l = false := decide_eq_false h
  exact ⟨this, by unfold numV; rw [this]; rfl⟩
theorem num_no_empty {l : List UInt8} (h : body l = []) : numOk l = false ∧ numV l = 0 := num_no fun g => g.1.ne h
theorem num_no_long {l : List UInt8} (h : 18 < (body l).length) : numOk l = false ∧ numV l = 0 := num_no fun g => by have := g.2.1; omega
theorem num_no_zero {l : List UInt8} (h : (body l).head? = some 48) (h1 : 1 < l.length) : numOk l = false ∧ numV l = 0 := num_no fun g => by
  have e := g.1.first h
  by_cases g45 : l.head? = some 45
  · exact g.2.2 g45 e
  · have : body l = l := if_neg g45
    rw [this] at e
    rw [e] at h1; simp at h1
theorem num_no_digit {l : List UInt8} {b : UInt8} (h : b ∈ body l) (hd : ¬ dig b) : numOk l = false ∧ numV l = 0 := num_no fun g => hd (g.1.digs b h)
theorem num_yes {l : List UInt8} (h0 : body l ≠ []) (h1 : (body l).length ≤ 18) (h2 : ¬ ((body l).head? = some 48 ∧ 1 < l.length)) (h3 : ∀ b ∈ body l, dig b) : numOk l = true := by
  have hl : l ≠ [] := fun e => by rw [e] at h0; exact h0 rfl
  refine decide_eq_true ⟨⟨h0, h3, fun e => ?_⟩, h1, fun g e => ?_⟩
  · by_cases g : l.head? = some 45
    · exfalso
      apply h2
      refine ⟨e, ?_⟩
      have hb : body l = l.drop 1 := if_pos g
      have : 0 < (l.drop 1).length := List.length_pos_iff.2 (by rw [← hb]; exact h0)
      rw [List.length_drop] at this; omega
    · have hb : body l = l := if_neg g
      rw [hb] at e ⊢
      match l, hl with
      | [x], _ => simp only [List.head?_cons, Option.some.injEq] at e; rw [e]
      | x :: y :: r, _ => exact absurd ⟨by rw [hb]; exact e, by simp⟩ h2
  · apply h2
    have hb : body l = l.drop 1 := if_pos g
    refine ⟨by rw [e]; rfl, ?_⟩
    have : (l.drop 1).length = 1 := by rw [← hb, e]; rfl
    rw [List.length_drop] at this; omega
theorem num_val {l : List UInt8} (h : numOk l = true) : numV l = if l.head? = some 45 then -(valD 0 (body l) : Int) else (valD 0 (body l) : Int) := by unfold numV; rw [if_pos h]
/-- The digits of l from a up to k, read. -/
def upto (l : List UInt8) (a k : Nat) : Nat := valD 0 ((l.take k).drop a)
theorem upto_start (l : List UInt8) (a : Nat) : upto l a a = 0 := by
  unfold upto
  rw [List.drop_eq_nil_of_le (by rw [List.length_take]; omega)]; rfl
theorem upto_step {l : List UInt8} {a k : Nat} (hk : k < l.length) (ha : a ≤ k) : upto l a (k + 1) = upto l a k * 10 + (l[k].toNat - 48) := by
  unfold upto
  rw [List.take_succ_eq_append_getElem hk, List.drop_append_of_le_length (by rw [List.length_take]; omega), valD_snoc]
def digsTo (l : List UInt8) (a k : Nat) : Prop := ∀ b ∈ (l.take k).drop a, dig b
theorem digsTo_start (l : List UInt8) (a : Nat) : digsTo l a a := by
  unfold digsTo
  rw [List.drop_eq_nil_of_le (by rw [List.length_take]; omega)]; intro b hb; cases hb
theorem digsTo_step {l : List UInt8} {a k : Nat} (h : digsTo l a k) (hk : k < l.length) (ha : a ≤ k) (hd : dig l[k]) : digsTo l a (k + 1) := by
  unfold digsTo at *
  rw [List.take_succ_eq_append_getElem hk, List.drop_append_of_le_length (by rw [List.length_take]; omega)]
  intro b hb
  rcases List.mem_append.1 hb with hb | hb
  · exact h b hb
  · rw [List.mem_singleton.1 hb]; exact hd
theorem upto_lt {l : List UInt8} {a k : Nat} (h : digsTo l a k) (hk : k ≤ a + 17) : upto l a k < 100000000000000000 := by
  have h1 := valD_lt _ h
  have h2 : 10 ^ ((l.take k).drop a).length ≤ 10 ^ 17 := Nat.pow_le_pow_right (by omega) (by rw [List.length_drop, List.length_take]; omega)
  unfold upto
  omega
theorem mem_drop {l : List UInt8} {a k : Nat} (h : k < l.length) (ha : a ≤ k) : l[k] ∈ l.drop a := by
  rw [List.mem_iff_getElem?]
  exact ⟨k - a, by rw [List.getElem?_drop, show a + (k - a) = k by omega, List.getElem?_eq_getElem h]⟩
theorem digC (b : UInt8) : digitC (b.toNat : Int) ↔ dig b := by unfold digitC dig; omega

end Go.Proofs.YtgdfecnpkjnhnaaGreatDoor
/- A block that holds the cells cs, none frozen: facts carried in one word. No program in sight. -/
set_option linter.unusedSimpArgs false
set_option linter.unnecessarySimpa false
set_option linter.unusedVariables false
namespace Go.Proofs.YtgdfecnpkjnhnaaGreatDoor
open Go.RowKit

structure Box (w : World) (q : Nat) (cs : List Value) : Prop where
  lt : q < w.heap.size
  at' : ∀ j u, cs[j]? = some u → w.cell? ⟨q, j, none⟩ = some u
  fr : ∀ j, w.frozen? ⟨q, j, none⟩ = false
theorem Box.touch {w w' : World} {q B E : Nat} {cs : List Value} (h : Box w q cs) (t : Touch B E w w') (hq : q < B ∨ E ≤ q) : Box w' q cs :=
  ⟨Nat.lt_of_lt_of_le h.lt t.size, fun j u hu => cellT t (h.at' j u hu) hq, fun j => froz_touch t h.lt hq (h.fr j)⟩
theorem Box.step {w w' : World} {q K : Nat} {cs : List Value} (h : Box w q cs) (t : Below K w w') (hq : q < K) : Box w' q cs :=
  ⟨Nat.lt_of_lt_of_le h.lt t.size, fun j u hu => cellL t hq (h.at' j u hu), fun j => frozenL t hq (h.fr j)⟩
theorem Box.mono {w w' : World} {q : Nat} {cs : List Value} (h : Box w q cs) (t : Below w.heap.size w w') : Box w' q cs := h.step t h.lt
theorem Box.alloc (w : World) (cs : List Value) (e : TypeId) (q : Nat) (hq : w.heap.size = q) : Box (w.alloc (.cells cs.toArray e)) q cs := by
  subst hq
  refine ⟨by simp, fun j u hu => ?_, fun j => by simp [go_sem]⟩
  rw [cell_of_row _ w.heap.size j cs.toArray e (0, 0) (heap_alloc_new w _)]
  simpa using hu
theorem Box.set {w : World} {q j : Nat} {cs : List Value} (h : Box w q cs) (u : Value) (hj : j < cs.length) : Box (w.setCell ⟨q, j, none⟩ u) q (cs.set j u) := by
  obtain ⟨lt, at', fr⟩ := h
  have c0 := at' j cs[j] (by simp [hj])
  have f0 := fr j
  refine ⟨by simpa [World.setCell] using lt, fun i v hv => ?_, fun i => ?_⟩
  · by_cases e : i = j
    · subst e
      rw [List.getElem?_set_self hj] at hv
      cases hv
      simp [go_sem, c0, f0, lt]
    · rw [List.getElem?_set_ne (fun e' => e e'.symm)] at hv
      have := at' i v hv
      simp [go_sem, this, c0, f0, lt, e]
  · have := fr i
    simp [go_sem, lt, f0, this]

end Go.Proofs.YtgdfecnpkjnhnaaGreatDoor
/- The reference reads a tone. Contract of l25ReadTone. -/
set_option linter.unusedSimpArgs false
set_option linter.unnecessarySimpa false
set_option linter.unusedVariables false
set_option maxRecDepth 100000
namespace Go.Proofs.YtgdfecnpkjnhnaaGreatDoor
open Go.RowKit

noncomputable instance (p : List UInt8) : Decidable (toneB p) := Classical.propDecidable _
theorem two_of {l : List (List UInt8)} (h : l.length = 2) : ∃ a b, l = [a, b] := by
  match l, h with
  | [a, b], _ => exact ⟨a, b, rfl⟩
theorem piece_size' {c : UInt8} {p q : List UInt8} (h : q ∈ splitC c p) (hs : (bytesB p).size ≤ 1048576) : (bytesB q).size ≤ 1048576 := by
  rw [bytesB_size] at *
  have := piece_len (c := c) _ q h
  omega
/-- The words lie in a row of two. -/
theorem txt2 {w : World} {v : Value} {a b : List UInt8} (h : Txt w v [a, b]) : ∃ g c, v = .slice (some ⟨g, 0, none⟩) 2 c ∧ 2 ≤ c ∧ w.cell? ⟨g, 0, none⟩ = some (.string (bytesB a)) ∧ w.cell? ⟨g, 1, none⟩ = some (.string (bytesB b)) := by
  obtain ⟨g, c, rfl, hc, h⟩ := h
  exact ⟨g, c, rfl, hc, h 0 (by simp), h 1 (by simp)⟩

def RdTone (p : List UInt8) (w : World) (e : Ending) (w' : World) : Prop :=
  ∃ x : Ton, e = .returned (.tuple #[.agg #[.int .i64 x.note, .int .i64 x.start, .int .i64 x.len], .bool (decide (toneB p))]) ∧ (toneB p → x = toneV p) ∧ Below w.heap.size w w'


end Go.Proofs.YtgdfecnpkjnhnaaGreatDoor
/- The reference reads a tune. Contract of ReadTune. -/
set_option linter.unusedSimpArgs false
set_option linter.unnecessarySimpa false
set_option linter.unusedVariables false
set_option maxRecDepth 100000
namespace Go.Proofs.YtgdfecnpkjnhnaaGreatDoor
open Go.RowKit

theorem rtT_of {s : ByteArray} {hd : List UInt8} {tl : List (List UInt8)} (h : words s = hd :: tl) : rtT s = ⟨bytesB hd, tl.map toneV⟩ := by unfold rtT; rw [h]; rfl
theorem rtOk_of {s : ByteArray} {hd : List UInt8} {tl : List (List UInt8)} (h : words s = hd :: tl) : rtOk s ↔ ((∀ p ∈ tl, toneB p) ∧ TunOk ⟨bytesB hd, tl.map toneV⟩) := by unfold rtOk; rw [rtT_of h, h]; rfl
/-- The tones of the first j pieces. -/
noncomputable def tonesTo (tl : List (List UInt8)) (j : Nat) : List Ton := (tl.take j).map toneV
theorem tonesTo_step {tl : List (List UInt8)} {j : Nat} (h : j < tl.length) : tonesTo tl (j + 1) = tonesTo tl j ++ [toneV tl[j]] := by unfold tonesTo; rw [List.take_succ_eq_append_getElem h, List.map_append]; rfl
theorem tonesTo_all (tl : List (List UInt8)) : tonesTo tl tl.length = tl.map toneV := by unfold tonesTo; rw [List.take_length]
theorem own_zeroT (B E : Nat) (w : World) : OwnTun B E w (.agg #[.string ⟨#[]⟩, .slice none 0 0]) ⟨.empty, []⟩ := ⟨_, rfl, owns_nil _ _ _ _, fun k hk => by simp [Value.ownBlock] at hk⟩


def RdTune (s : ByteArray) (w : World) (e : Ending) (w' : World) : Prop := ∃ v, e = .returned (.tuple #[v, .bool (rtB s)]) ∧ OwnTun w.heap.size w'.heap.size w' v (rtV s) ∧ Below w.heap.size w w'

end Go.Proofs.YtgdfecnpkjnhnaaGreatDoor
/- The program's reading of a decimal text. Contract of ReadDecimal. -/
set_option linter.unusedSimpArgs false
set_option linter.unnecessarySimpa false
set_option linter.unusedVariables false
set_option maxRecDepth 100000
namespace Go.Proofs.YtgdfecnpkjnhnaaGreatDoor
open Go.RowKit

/-- The body, as the library trims it. -/
theorem trim_body (l : List UInt8) : Lib.trimPrefix l [45] = body l := by
  unfold Lib.trimPrefix body Lib.hasPrefix
  cases l with
  | nil => simp
  | cons b r =>
    by_cases h : b = 45
    · subst h; simp
    · have h2 : ¬ 45 = b := fun e => h e.symm
      simp [h, h2]
/-- What ParseInt hands back: the number or an error. -/
theorem parse_any (s : ByteArray) (w : World) (hs : s.size ≤ 1048576) (hL : Lay w) :
    Calls Tryz.prog 49 #[.string s, .int .i64 10, .int .i64 64] w fun e w' =>
      ((∃ v, Lib.parseIntB 64 s.data.toList = .ok v ∧ e = .returned (.tuple #[.int .i64 v, .nilIface])) ∨
       ((∀ v, Lib.parseIntB 64 s.data.toList ≠ .ok v) ∧ ∃ v t p, e = .returned (.tuple #[.int .i64 v, .iface t p]))) ∧ Below w.heap.size w w' := by
  cases hp : Lib.parseIntB 64 s.data.toList
  · rename_i v
    refine (Tryz.strconv_ParseInt_10_at64_ok s (by omega) v hp w).mono ?_
    rintro e w' ⟨rfl, hw⟩
    refine ⟨.inl ⟨v, rfl, rfl⟩, ?_⟩
    rcases hw with rfl | ⟨t, rfl⟩
    · exact Below.refl _ _
    · exact Lib.bytesWorld_below w _ t
  · obtain ⟨ev, hv, hev⟩ := hL.bad
    refine (Any.strconv_ParseInt_10_at64_syntax Tryz.laysC174 s (by omega) hp ev w hv hev).mono ?_
    rintro e w' ⟨N, rfl, _, _, hb⟩
    exact ⟨.inr ⟨fun v h => (by cases h), _, _, _, rfl⟩, hb⟩
  · obtain ⟨ev, hv, hev⟩ := hL.far
    refine (Any.strconv_ParseInt_10_at64_range Tryz.laysC174 s (by omega) hp ev w hv hev).mono ?_
    rintro e w' ⟨N, rfl, _, _, hb⟩
    exact ⟨.inr ⟨fun v h => (by cases h), _, _, _, rfl⟩, hb⟩

theorem itoa_ok {v : Int} (h18 : (body (Lib.itoa v)).length ≤ 18) : numOk (Lib.itoa v) = true := by
  refine decide_eq_true ?_
  by_cases g : v < 0
  · rw [itoa_negs g] at h18 ⊢
    have hb : body (45 :: Lib.decDigits v.natAbs) = Lib.decDigits v.natAbs := by simp [body]
    rw [hb] at h18 ⊢
    refine ⟨(dec_canon _).1, h18, fun _ e => ?_⟩
    have e0 : Lib.decDigits 0 = [48] := by rw [Lib.decDigits, dif_pos (by omega)]; rfl
    have := dec_inj (e.trans e0.symm)
    omega
  · rw [itoa_pos (by omega)] at h18 ⊢
    have hb : body (Lib.decDigits v.natAbs) = Lib.decDigits v.natAbs := if_neg (dec_head _)
    rw [hb] at h18 ⊢
    exact ⟨(dec_canon _).1, h18, fun e => absurd e (dec_head _)⟩
/-- A text of at most 18 digits that is no number's own is not written again. -/
theorem dec_again {l : List UInt8} (h0 : body l ≠ []) (h18 : (body l).length ≤ 18) {v : Int} (hp : Lib.parseIntB 64 l = .ok v) : Lib.itoa v = l ↔ numOk l = true := by
  constructor
  · intro h
    rw [← h] at h18 ⊢
    exact itoa_ok h18
  · intro h
    have := parse_num h
    rw [hp] at this
    cases this
    exact num_itoa h

set_option maxHeartbeats 2000000 in
theorem ReadDecimal_any (s : ByteArray) (w : World) (hs : s.size ≤ 1048576) (hL : Lay w) :
    Calls Tryz.prog 27 #[.string s] w fun e w' => e = .returned (.tuple #[.int .i64 (numV s.data.toList), .bool (numOk s.data.toList)]) ∧ Below w.heap.size w w' := by
  have HLY := Lib.hid hL
  have HT := Tryz.strings_TrimPrefix s ⟨#[45]⟩ w
  rw [show (⟨#[45]⟩ : ByteArray).data.toList = [45] from rfl, trim_body] at HT
  have HTR := Lib.hid HT
  obtain ⟨bd, hbd⟩ : ∃ b, b = (⟨(body s.data.toList).toArray⟩ : ByteArray) := ⟨_, rfl⟩
  have hbs : bd.size = (body s.data.toList).length := by rw [hbd]; simp [ByteArray.size]
  rw [← hbd] at HTR
  clear HT hL hbd
  by_cases e0 : bd.size = 0
  · have HN := Lib.hid (num_no_empty (l := s.data.toList) (List.eq_nil_of_length_eq_zero (by omega)))
    clear hbs
    go_enter Tryz.func27, Tryz.ntmps27
    go_wp2_with fail
    refine HTR.out.mono ?_
    rintro e w1 ⟨rfl, rfl⟩
    go_wp2
    go_ret2
    exact ⟨by rw [HN.out.1, HN.out.2]; rfl, Below.refl _ _⟩
  have f1 : decide ((bd.size : Int) < 1) = false := by simp only [decide_eq_false_iff_not]; omega
  have f2 : decide (bd.size < 1) = false := by simp only [decide_eq_false_iff_not]; omega
  by_cases e1 : 18 < bd.size
  · have HN := Lib.hid (num_no_long (l := s.data.toList) (by omega))
    clear hbs
    have f3 : decide (18 < (bd.size : Int)) = true := by simp only [decide_eq_true_eq]; omega
    go_enter Tryz.func27, Tryz.ntmps27
    go_wp2_with fail
    refine HTR.out.mono ?_
    rintro e w1 ⟨rfl, rfl⟩
    go_wp2
    go_ret2
    exact ⟨by rw [HN.out.1, HN.out.2]; rfl, Below.refl _ _⟩
  have f3 : decide (18 < (bd.size : Int)) = false := by simp only [decide_eq_false_iff_not]; omega
  have f4 : decide (18 < bd.size) = false := by simp only [decide_eq_false_iff_not]; omega
  have HP := Lib.hid (parse_any s w hs HLY.out)
  have HNE := Lib.hid (show body s.data.toList ≠ [] from fun e => by rw [e] at hbs; exact e0 hbs)
  have H18 := Lib.hid (show (body s.data.toList).length ≤ 18 by omega)
  clear hbs
  go_enter Tryz.func27, Tryz.ntmps27
  go_wp2_with fail
  refine HTR.out.mono ?_
  rintro e w1 ⟨rfl, rfl⟩
  go_wp2_with fail
  refine HP.out.mono ?_
  rintro e w2 ⟨hq, hb2⟩
  have HB2 := Lib.hid hb2
  rcases hq with ⟨v, hv, rfl⟩ | ⟨hv, v, t, p, rfl⟩
  · have HA := Lib.hid (dec_again HNE.out H18.out hv)
    have HV := Lib.hid hv
    have HI := Lib.hid (show I64 v by have := Lib.parseIntB_bounds hv; simp only [I64, Lit.wf, IntKind.min, IntKind.max, IntKind.signed, IntKind.bits]; simp at this ⊢; omega)
    clear hv hb2
    go_wp2_with fail
    refine (Decimal_any v _ HI.out (HLY.out.mono HB2.out).tab).mono ?_
    rintro e w3 ⟨rfl, hb3⟩
    have HB3 := Lib.hid (HB2.out.trans (hb3.mono HB2.out.size))
    clear hb3
    by_cases hn : numOk s.data.toList = true
    · have he : decB v = s := by
        unfold decB
        rw [HA.out.2 hn]
        exact bytesB_of s
      have HE := Lib.hid (show numV s.data.toList = v by have := parse_num hn; rw [HV.out] at this; cases this; rfl)
      have HN := Lib.hid hn
      clear hn
      rw [he]
      go_wp2
      go_ret2
      exact ⟨by rw [HE.out, HN.out]; rfl, HB3.out⟩
    · have he : ((decB v).toList == s.toList) = false := by
        rw [strEq]
        refine decide_eq_false fun e => hn (HA.out.1 ?_)
        unfold decB at e
        rw [← e, bytesB_list]
      have HN := Lib.hid (show numOk s.data.toList = false ∧ numV s.data.toList = 0 by
        have : numOk s.data.toList = false := by simpa using hn
        exact ⟨this, by unfold numV; rw [this]; rfl⟩)
      clear hn
      go_wp2
      go_ret2
      exact ⟨by rw [HN.out.1, HN.out.2]; rfl, HB3.out⟩
  · have HN := Lib.hid (show numOk s.data.toList = false ∧ numV s.data.toList = 0 by
      cases hn : numOk s.data.toList with
      | true => exact absurd (parse_num hn) (hv _)
      | false => exact ⟨rfl, by unfold numV; rw [hn]; rfl⟩)
    clear hv hb2
    go_wp2
    go_ret2
    exact ⟨by rw [HN.out.1, HN.out.2]; rfl, HB2.out⟩

end Go.Proofs.YtgdfecnpkjnhnaaGreatDoor
