import Derived.Test.YtenedpboehkmjaaGreatSpZ22
import Derived.Test.YtenedpboehkmjaaGreatSpZ20
import Derived.OwnWalk
import Derived.Test.YtenedpboehkmjaaGreatSpZ21
import Derived.Test.YtenedpboehkmjaaGreatSpZ19
/- ShortestPlan of the program. -/
set_option linter.unusedSimpArgs false
set_option linter.unnecessarySimpa false
set_option linter.unusedVariables false
set_option maxRecDepth 100000
namespace Go.Proofs.YtenedpboehkmjaaGreat
open Go.RowKit

/-- A number read from an object. -/
def numOf (w : World) (p0 j : Nat) : Nat := match w.cell? ⟨p0, j, none⟩ with | some v => (intOf v).toNat | none => 0
theorem numOf_eq {w : World} {p0 j k : Nat} (h : w.cell? ⟨p0, j, none⟩ = some (.int .i64 (k : Int))) : numOf w p0 j = k := by
  unfold numOf; rw [h]; simp [intOf]
set_option maxHeartbeats 1000000 in
theorem sumOf_any (o : Int) (v : Value) (xs : List Int) (w : World) (h : Ints w v xs) (hb : ∀ i, i < xs.length → 0 ≤ xs.getD i 0 ∧ xs.getD i 0 ≤ 20) (hl : xs.length ≤ 8) (ho : o = sumL xs) :
    Calls Tryz.prog 30 #[v] w fun e w' => e = .returned (.int .i64 o) ∧ w' = w := by
  obtain ⟨a, ca, rfl, _⟩ := id h
  have HO := Lib.hid ho
  clear ho
  go_enter Tryz.func30, Tryz.ntmps30
  go_wp2_with fail
  go_loopw [3, 5, 8] (fun sv _ iv wr => ∃ k : Nat, k ≤ xs.length ∧ iv = .int .i64 (k : Int) ∧ sv = .int .i64 (sumL (xs.take k)) ∧ wr = w) (fun _ _ iv _ => xs.length - (intOf iv).toNat)
  case atStart => exact ⟨0, Nat.zero_le _, by go_num, by simp [sumL], rfl⟩
  case round =>
    obtain ⟨k, hk, rfl, rfl, rfl⟩ := hrel
    have hsb := sumL_bd hb k hk
    by_cases hlt : k < xs.length
    · obtain ⟨b1, o1, rfl, c1⟩ := h.cells (by simp; omega)
      have d1 := c1 k (.int .i64 (xs.getD k 0)) (by simp [hlt])
      have h20 := hb k hlt
      have HN := Lib.hid (sumL_next hlt)
      obtain ⟨s0, hs0⟩ : ∃ s0, s0 = xs.getD k 0 := ⟨_, rfl⟩
      obtain ⟨t0, ht0⟩ : ∃ t0, t0 = sumL (xs.take k) := ⟨_, rfl⟩
      rw [← hs0] at d1 h20 HN
      rw [← ht0] at hsb HN ⊢
      have hkI : (k : Int) < (xs.length : Int) := by omega
      have w1' : IntKind.i64.wrap (t0 + s0) = t0 + s0 := IntWalk.i64_in _ (by omega)
      clear c1 hs0 ht0
      go_wp2
      go_roundw
      case rel => exact ⟨k + 1, by omega, by go_num, by rw [HN.out], trivial⟩
      case measure => simp [intOf] <;> omega
    · obtain rfl : k = xs.length := by omega
      rw [List.take_length]
      go_wp2
      go_ret
      exact ⟨ret_int HO.out.symm, rfl⟩
set_option maxHeartbeats 1000000 in
theorem planned_any (p0 : Nat) (vz vg vb : Value) (nm : ByteArray) (vp : Value) (g : GoalD) (vl vs : Value) (total cnt : Int) (vf : Value) (left : Nat) (sp : Bool) (st : List Int) (fnd : Bool) (w : World) (B : Box w p0 (fC vz vg vb nm vp g vl vs total true cnt vf left sp)) (h0 : fnd = false → cnt = 0) (h1 : fnd = true → sp = false ∧ cnt = 1 ∧ Ints w vf st ∧ st.length ≤ 8) :
    Calls Tryz.prog 33 #[ptr p0 0] w fun e w' => ∃ v, e = .returned (.tuple #[v, .int .i64 (plC ⟨fnd, st, left, sp⟩)]) ∧ OwnCutDs w.heap.size w'.heap.size w' v (plV ⟨fnd, st, left, sp⟩) ∧ Below w.heap.size w w' := by
  have c1 := B.at' 1 _ rfl
  have c18 := B.at' 18 _ rfl
  have c19 := B.at' 19 _ rfl
  have l0 := B.lt
  clear B
  unfold ptr
  cases fnd
  · have e0 := h0 rfl
    subst e0
    clear h0 h1
    cases sp
    · have E := Lib.hid (pl_none (R := ⟨false, st, left, false⟩) rfl rfl)
      go_enter Tryz.func33, Tryz.ntmps33
      go_wp2
      go_ret2
      exact ⟨_, by rw [E.out.2]; rfl, by rw [E.out.1]; exact OwnRow.mk' (owns_nil _ _ _ _), Below.refl _ _⟩
    · have E := Lib.hid (pl_full (R := ⟨false, st, left, true⟩) rfl rfl)
      go_enter Tryz.func33, Tryz.ntmps33
      go_wp2
      go_ret2
      exact ⟨_, by rw [E.out.2]; rfl, by rw [E.out.1]; exact OwnRow.mk' (owns_nil _ _ _ _), Below.refl _ _⟩
  · obtain ⟨e0, e1, hI, h8⟩ := h1 rfl
    subst e0 e1
    have E := Lib.hid (pl_yes (R := ⟨true, st, left, false⟩) rfl)
    have HI := Lib.hid hI
    obtain ⟨af, cf, rfl, _⟩ := id hI
    clear h0 h1 hI
    go_enter Tryz.func33, Tryz.ntmps33
    go_wp2_with fail
    refine (cutsOf_any _ st _ HI.out h8).mono ?_
    rintro e w1 ⟨v1, rfl, ho1, hb1⟩
    have HO1 := Lib.hid ho1
    obtain ⟨a1, k1, rfl⟩ := ho1.form
    clear ho1
    go_wp2
    go_ret2
    exact ⟨_, by rw [E.out.2]; rfl, by rw [E.out.1]; exact HO1.out, hb1⟩

set_option maxHeartbeats 8000000 in
theorem implShortestPlan_any (v0 : Value) (x0 : ModD) (v1 : Value) (x1 : PrfD) (v2 : Value) (x2 : GoalD) (n : Int) (w : World) (h0 : RdModD w v0 x0) (_ : okModD x0) (_ : szModD x0 ≤ 1048576) (h1 : RdPrf w v1 x1) (o1 : okPrf x1) (_ : szPrf x1 ≤ 1048576) (h2 : RdGoal w v2 x2) (_ : okGoal x2) (_ : szGoal x2 ≤ 1048576) (_ : I64 n) :
    Calls Tryz.prog 10 #[v0, v1, v2, .int .i64 n] w fun e w' => ∃ v, e = .returned (.tuple #[v, .int .i64 (spC x0 x1 x2 n)]) ∧ OwnCutDs w.heap.size w'.heap.size w' v (spV x0 x1 x2 n) ∧ Below w.heap.size w w' := by
  unfold RdGoal at h2
  subst h2
  have HN := Lib.hid o1.1
  obtain ⟨vz, vg, vb, rfl, hz, hg, hb⟩ := id h0
  obtain ⟨az, cz, rfl, _⟩ := id hz
  obtain ⟨ag, cg, rfl⟩ := hg.form
  obtain ⟨ab, cb, rfl, _⟩ := id hb
  obtain ⟨vp, rfl, hp⟩ := id h1
  obtain ⟨ap, cp, rfl, _⟩ := id hp
  have HM := Lib.hid h0; have HP := Lib.hid h1
  clear h0 h1 hz hg hb hp o1
  obtain ⟨r, hr⟩ : ∃ r, r = seaC x0 x1 x2 n := ⟨_, rfl⟩
  have HR := Lib.hid hr
  unfold GoalD.val
  go_enter Tryz.func10, Tryz.ntmps10
  go_wp2_with fail
  obtain ⟨wA, hA⟩ : ∃ wA, wA = ((w.alloc (.cells #[.slice az x0.zones.length cz, .slice ag x0.weights.length cg, .slice ab x0.base.length cb] 38)).alloc (.cells #[.string x1.name, .slice ap x1.rings.length cp] 42)).alloc (.cells #[.int .i64 x2.t.a, .int .i64 x2.t.b, .int .i64 x2.t.c, .int .i64 x2.t.d, .int .i64 x2.t.e, .int .i64 x2.tol, .int .i64 x2.most] 46) := ⟨_, rfl⟩
  rw [← hA]
  have hbA : Below w.heap.size w wA := by rw [hA]; (repeat (first | with_reducible exact Below.refl _ _ | with_reducible exact hbw | (with_reducible refine Below.setCell ?_ ?_ _; rotate_left; · first | exact Nat.le_refl _ | omega | (simp; done) | (simp; omega)) | (with_reducible refine Below.alloc ?_ ?_ _; rotate_left; · first | exact Nat.le_refl _ | omega | (simp; done) | (simp; omega)) | with_reducible refine below_drewN ?_ _ | with_reducible refine Below.drew ?_))
  have B1 : Box wA w.heap.size [.slice az x0.zones.length cz, .slice ag x0.weights.length cg, .slice ab x0.base.length cb] := by
    rw [hA]; exact ((Box.alloc w _ _ _ rfl).mono (belowA _ _)).mono (belowA _ _)
  have B2 : Box wA (w.heap.size + 1) [.string x1.name, .slice ap x1.rings.length cp] := by
    rw [hA]; exact (Box.alloc _ _ _ _ (by simp)).mono (belowA _ _)
  have B3 : Box wA (w.heap.size + 1 + 1) [.int .i64 x2.t.a, .int .i64 x2.t.b, .int .i64 x2.t.c, .int .i64 x2.t.d, .int .i64 x2.t.e, .int .i64 x2.tol, .int .i64 x2.most] := by
    rw [hA]; exact Box.alloc _ _ _ _ (by simp)
  clear hA
  refine (searchable_any r _ x0 _ x1 x2 n _ (HM.out.mono hbA) (HP.out.mono hbA) HN.out hr).mono ?_
  rintro e w1 ⟨rfl, hb1⟩
  have HB1 := Lib.hid (hbA.trans (hb1.mono hbA.size))
  replace B1 := B1.mono hb1
  replace B2 := B2.mono hb1
  replace B3 := B3.mono hb1
  clear hbA hb1
  by_cases g : r = 0
  · have d0 : (r != 0) = false := by simpa using g
    have HSP := Lib.hid (sp_ok (show seaC x0 x1 x2 n = 0 by rw [← hr]; exact g))
    have A := sea_zero (show seaC x0 x1 x2 n = 0 by rw [← hr]; exact g)
    have HA := Lib.hid A
    obtain ⟨m, rfl⟩ : ∃ m : Nat, n = m := ⟨n.toNat, by have := A.low; omega⟩
    have hm : (m : Int) ≤ 20000 := A.high
    have HE := Lib.hid (show EnvI w1 (.slice az x0.zones.length cz) (.slice ag x0.weights.length cg) (.slice ab x0.base.length cb) x0 (.slice ap x1.rings.length cp) x1 x2 from ⟨HM.out.mono HB1.out, HP.out.mono HB1.out, A.okm, A.okp, A.okg, A.zo, HN.out⟩)
    clear A hr g
    have a0 := B1.at' 0 _ rfl
    have a1 := B1.at' 1 _ rfl
    have a2 := B1.at' 2 _ rfl
    have b0 := B2.at' 0 _ rfl
    have b1 := B2.at' 1 _ rfl
    have e0 := B3.at' 0 _ rfl
    have e1 := B3.at' 1 _ rfl
    have e2 := B3.at' 2 _ rfl
    have e3 := B3.at' 3 _ rfl
    have e4 := B3.at' 4 _ rfl
    have e5 := B3.at' 5 _ rfl
    have e6 := B3.at' 6 _ rfl
    have l1 := B1.lt
    have l2 := B2.lt
    have l3 := B3.lt
    clear B1 B2 B3
    have HNC := Lib.hid (newCutter_any _ _ _ x0 _ x1 x2 m w1 HE.out)
    unfold GoalD.val at HNC
    go_wp2_with fail
    refine HNC.out.mono ?_
    rintro e w2 ⟨p0, ps, vl, rfl, hNC⟩
    unfold ptr
    clear a0 a1 a2 b0 b1 e0 e1 e2 e3 e4 e5 e6 l1 l2 l3 HNC
    have c16 := hNC.box.at' 16 _ rfl
    have c17 := hNC.box.at' 17 _ rfl
    have f16 := hNC.box.fr 16
    have f17 := hNC.box.fr 17
    have l0 := hNC.box.lt
    have hT := ((Two.refl p0 ps w2).setCell (a := ⟨p0, 17, none⟩) (.inl rfl) (.bool true)).setCell (a := ⟨p0, 16, none⟩) (.inl rfl) (.int .i64 0)
    have q1 := (hNC.box.set (.bool true) (j := 17) (by simp [fC])).set (.int .i64 0) (j := 16) (by simp [fC])
    have q2 := hNC.st.two (((Two.refl p0 p0 w2).setCell (a := ⟨p0, 17, none⟩) (.inl rfl) (.bool true)).setCell (a := ⟨p0, 16, none⟩) (.inl rfl) (.int .i64 0)) hNC.ge.2.2.symm hNC.ge.2.2.symm
    have q3 := hNC.lim.two hT hNC.off
    have H13 := hT.below hNC.bel hNC.ge.1 hNC.ge.2.1 hNC.bel.size
    go_wp2_with fail
    obtain ⟨w3, hw3⟩ : ∃ w3, w3 = (w2.setCell ⟨p0, 17, none⟩ (.bool true)).setCell ⟨p0, 16, none⟩ (.int .i64 0) := ⟨_, rfl⟩
    rw [← hw3] at hT q1 q2 q3 H13 ⊢
    obtain ⟨lim, hlim⟩ : ∃ lim, lim = limL x1 x0.zones x2.most := ⟨_, rfl⟩
    rw [← hlim] at q3
    have HLIM := Lib.hid hlim
    have HLB := Lib.hid (show ∀ i, i < lim.length → 0 ≤ lim.getD i 0 ∧ lim.getD i 0 ≤ 20 by rw [hlim]; exact lim_bd HA.out)
    have hll : lim.length = x0.zones.length := by rw [hlim]; exact limL_len
    have hl8 : lim.length ≤ 8 := by rw [hll]; exact HA.out.zo.1.2
    have hsb : 0 ≤ sumL lim ∧ sumL lim ≤ 160 := by rw [hlim]; exact sum_bd HA.out
    obtain ⟨S, hS⟩ : ∃ S : Nat, sumL lim = (S : Int) := Int.eq_ofNat_of_zero_le hsb.1
    have hS160 : S ≤ 160 := by omega
    have HS := Lib.hid hS
    obtain ⟨low, hlow⟩ : ∃ low, low = lowP x0 x1 x2 := ⟨_, rfl⟩
    obtain ⟨plan, hplan⟩ : ∃ plan, plan = planP x0 x1 x2 := ⟨_, rfl⟩
    obtain ⟨R, hR⟩ : ∃ R, R = spR x0 x1 x2 (m : Int) := ⟨_, rfl⟩
    have HRR := Lib.hid hR
    have HR0 := Lib.hid (show shortP lim low plan (S + 1 - 0) 0 m = R by
      rw [hR]; unfold spR
      rw [← hlim, ← hlow, ← hplan, hS, Int.toNat_natCast, Int.toNat_natCast]; rfl)
    have HRO := Lib.hid (show (R.found = true → R.spent = false) ∧ (R.found = true → R.st.length ≤ 8) by
      rw [hR]
      refine ⟨fun h => ?_, fun h => ?_⟩
      · exact short_ok (fun i hi => (lim_bd HA.out i hi).1) _ _ _ h
      · have := (shortP_len (low := lowP x0 x1 x2) (plan := planP x0 x1 x2) (fun i hi => (lim_bd HA.out i hi).1) _ 0 (m : Int).toNat h).1
        have h2 : (spR x0 x1 x2 (m : Int)).st.length = (limL x1 x0.zones x2.most).length := this
        rw [h2, ← hlim]; exact hl8)
    have HNE := Lib.hid hNC.ge
    have hp3 : p0 < w3.heap.size := Nat.lt_of_lt_of_le hNC.box.lt hT.size
    have hps3 : ps < w3.heap.size := Nat.lt_of_lt_of_le hNC.st.lt hT.size
    have HOF := Lib.hid hNC.off
    have HSE := Lib.hid (fun (total : Int) (ht0 : 0 ≤ total) (ht1 : total ≤ 1000) => searchI_any w1 w3 p0 ps _ _ _ x0 _ x1 x2 vl lim total HE.out H13 hNC.ge ⟨hp3, hps3⟩ q3 hNC.off hlim ht0 ht1)
    rw [← hlow, ← hplan] at HSE
    have HCO := Lib.hid (show CO w3 p0 ps (.slice az x0.zones.length cz) (.slice ag x0.weights.length cg) (.slice ab x0.base.length cb) x1.name (.slice ap x1.rings.length cp) x2 vl x0.zones.length 0 0 (.slice none 0 0) m false [] w3 from ⟨q1, q2, Two.refl _ _ _⟩)
    have HQ3 := Lib.hid q3
    have H13 := Lib.hid H13
    clear hw3 hT q1 q2 q3 hlim hll hsb hS hlow hplan hR c16 c17 f16 f17 l0 hNC
    go_loopw [] (fun wr => ∃ k : Nat, k ≤ S + 1 ∧ ((∃ left', left' ≤ m ∧ shortP lim low plan (S + 1 - k) k left' = R ∧ CO w3 p0 ps (.slice az x0.zones.length cz) (.slice ag x0.weights.length cg) (.slice ab x0.base.length cb) x1.name (.slice ap x1.rings.length cp) x2 vl x0.zones.length (k : Int) 0 (.slice none 0 0) left' false [] wr) ∨ ((R.found = true ∨ R.spent = true) ∧ ∃ cnt vf, CO w3 p0 ps (.slice az x0.zones.length cz) (.slice ag x0.weights.length cg) (.slice ab x0.base.length cb) x1.name (.slice ap x1.rings.length cp) x2 vl x0.zones.length (k : Int) cnt vf R.left R.spent [] wr ∧ FndI p0 ps R cnt vf wr))) (fun wr => S + 1 - numOf wr p0 16)
    case atStart => exact ⟨0, Nat.zero_le _, .inl ⟨m, Nat.le_refl _, HR0.out, HCO.out⟩⟩
    case round =>
      obtain ⟨k, hk, hst⟩ := hrel
      have HST := Lib.hid hst
      obtain ⟨cntW, vfW, leftW, spW, hCW⟩ : ∃ cnt vf left' sp, CO w3 p0 ps (.slice az x0.zones.length cz) (.slice ag x0.weights.length cg) (.slice ab x0.base.length cb) x1.name (.slice ap x1.rings.length cp) x2 vl x0.zones.length (k : Int) cnt vf left' sp [] wr := by
        rcases hst with ⟨l', _, _, h⟩ | ⟨_, c, f, h, _⟩
        · exact ⟨_, _, _, _, h⟩
        · exact ⟨_, _, _, _, h⟩
      clear hst
      have HCW := Lib.hid hCW
      have c16 := hCW.box.at' 16 _ rfl
      have c14 := hCW.box.at' 14 _ rfl
      have l0 := hCW.box.lt
      have HC16 := Lib.hid c16
      have HLI := Lib.hid (HQ3.out.two hCW.two HOF.out)
      clear hCW
      by_cases hle : k ≤ S
      · have hleI : (k : Int) ≤ (S : Int) := by omega
        rcases HST.out with ⟨l', h1, h2, h3⟩ | ⟨hre, hEnd⟩
        · have HT := Lib.hid (show shortP lim low plan ((S - k) + 1) k l' = R by rw [← h2]; congr 1; omega)
          have HC := Lib.hid h3
          clear h2 h3 HST HCW
          go_wp2_with fail
          refine wp_region_ord [(0, true), (1, true), (2, true), (3, true), (4, true), (5, true), (6, true), (7, true), (8, false), (9, true), (10, true), (11, true), (12, false), (13, true), (14, true)] (none) (by kernel_rfl) (by kernel_rfl) ?_
          (repeat (with_reducible refine wpOrd_soft (fun K hK => ?_); simp only [List.getElem?_toArray, List.getElem?_cons_zero, List.getElem?_cons_succ]; first | (go_simp; refine hK _ ?_) | (simp only [undef]; go_simp; refine hK _ ?_); clear hK K))
          (with_reducible refine wpOrd_hard ?_; simp only [List.getElem?_toArray, List.getElem?_cons_zero, List.getElem?_cons_succ])
          go_wp2_with fail
          refine (sumOf_any (S : Int) _ lim _ (Ints.mono HLI.out (Below.refl _ _).drew) HLB.out hl8 HS.out.symm).mono ?_
          rintro e w4 ⟨rfl, he⟩
          have hb4 : Below wr.heap.size wr w4 := by rw [he]; exact (Below.refl _ _).drew
          clear he
          go_wp2_with fail
          refine ⟨grown_of_below hb4, ?_⟩
          (repeat (with_reducible refine wpOrd_soft (fun K hK => ?_); simp only [List.getElem?_toArray, List.getElem?_cons_zero, List.getElem?_cons_succ]; first | (go_simp; refine hK _ ?_) | (simp only [undef]; go_simp; refine hK _ ?_); clear hK K))
          (with_reducible refine wpOrd_hard ?_; simp only [List.getElem?_toArray, List.getElem?_cons_zero, List.getElem?_cons_succ])
          go_wp2_with fail
          refine (doneD_any false p0 _ _ _ _ _ _ _ _ _ 0 false _ l' false _ (HC.out.box.mono hb4) ⟨fun _ => rfl, (fun h => by cases h)⟩ rfl).mono ?_
          rintro e w5 ⟨rfl, he⟩
          have hb5 : Below wr.heap.size wr w5 := by rw [he]; exact hb4
          clear he
          go_wp2_with fail
          refine ⟨grown_of_below hb5, ?_⟩
          (repeat (with_reducible refine wpOrd_soft (fun K hK => ?_); simp only [List.getElem?_toArray, List.getElem?_cons_zero, List.getElem?_cons_succ]; first | (go_simp; refine hK _ ?_) | (simp only [undef]; go_simp; refine hK _ ?_); clear hK K))
          (with_reducible refine wpOrd_nil ?_); refine NoPanic.normal ?_
          have HC5 := Lib.hid (HC.out.mono hb5)
          have IH := HSE.out (k : Int) (by omega) (by omega) lim.length [] l' w5 (by simp) (stIn_nil _) (by omega) HC5.out
          rw [show ((([] : List Int).length : Nat) : Int) = 0 from rfl, show sumL [] = 0 from rfl] at IH
          unfold ptr at IH
          have HIH := Lib.hid IH
          clear IH c16 c14 l0 hb5
          go_wp2_with fail
          refine HIH.out.mono ?_
          rintro e w6 ⟨rfl, cnt, vf, hC6, hF6⟩
          have hok := runP_ok lim low plan (k : Int) (fun i hi => (HLB.out i hi).1) lim.length [] l' (by simp) (stIn_nil _)
          obtain ⟨r, hr⟩ : ∃ r, r = runP lim low plan (k : Int) lim.length [] l' := ⟨_, rfl⟩
          rw [← hr] at hC6 hF6 hok
          have HRr := Lib.hid hr
          have HOK := Lib.hid hok
          have c16 := hC6.box.at' 16 _ rfl
          have f16 := hC6.box.fr 16
          have l6 := hC6.box.lt
          have hC7 := hC6.setTotal HNE.out.2.2 ((k : Int) + 1)
          have hF7 := hF6.two ((Two.refl p0 ps w6).setCell (a := ⟨p0, 16, none⟩) (.inl rfl) (.int .i64 ((k : Int) + 1)))
          have E7 := Lib.hid (show ((k + 1 : Nat) : Int) = (k : Int) + 1 by omega)
          have HM := Lib.hid (show numOf (w6.setCell ⟨p0, 16, none⟩ (.int .i64 ((k : Int) + 1))) p0 16 = k + 1 from numOf_eq (by rw [E7.out]; exact hC7.box.at' 16 _ rfl))
          have HC7 := Lib.hid hC7; have HF7 := Lib.hid hF7
          clear hr hC6 hF6 hok HIH hC7 hF7
          have w1' : IntKind.i64.wrap ((k : Int) + 1) = (k : Int) + 1 := IntWalk.i64_in _ (by omega)
          go_wp2_with fail
          refine ⟨⟨k + 1, by omega, ?_⟩, by rw [HM.out, numOf_eq HC16.out]; omega⟩
          cases hf : r.found
          · obtain ⟨e1, e2⟩ := HF7.out.1 hf
            subst e1 e2
            cases hs : r.spent
            · refine .inl ⟨r.left, by have := HOK.out.left; omega, ?_, by have := HC7.out; rw [hs] at this; rw [E7.out]; exact this⟩
              rw [← HT.out, shortP_next (by rw [← HRr.out]; exact hf) (by rw [← HRr.out]; exact hs), ← HRr.out]
              congr 1; omega
            · have E : R = ⟨false, [], r.left, true⟩ := by
                rw [← HT.out, shortP_spent (by rw [← HRr.out]; exact hf) (by rw [← HRr.out]; exact hs), ← HRr.out]
              refine .inr ⟨.inr (by rw [E]), ?_⟩
              rw [E]
              exact ⟨0, _, by have := HC7.out; rw [hs] at this; rw [E7.out]; exact this, fun _ => ⟨rfl, rfl⟩, (fun h => by cases h)⟩
          · have E : R = r := by rw [← HT.out, HRr.out]; exact shortP_found (by rw [← HRr.out]; exact hf)
            refine .inr ⟨.inl (by rw [E]; exact hf), ?_⟩
            rw [E]
            exact ⟨cnt, vf, by rw [E7.out]; exact HC7.out, HF7.out⟩
        · have HEN := Lib.hid hEnd
          obtain ⟨cnt, vf, hC, hF⟩ := hEnd
          have hsf : true = (R.spent || R.found) := by rcases hre with h | h <;> rw [h]; simp; rfl
          have HFC := Lib.hid (show (R.found = false → cnt = 0) ∧ (R.found = true → cnt = 1) from ⟨fun h => (hF.1 h).1, fun h => (hF.2 h).1⟩)
          have HC := Lib.hid hC
          have HSF := Lib.hid hsf
          clear hC hF hre HST HCW hsf
          go_wp2_with fail
          refine wp_region_ord [(0, true), (1, true), (2, true), (3, true), (4, true), (5, true), (6, true), (7, true), (8, false), (9, true), (10, true), (11, true), (12, false), (13, true), (14, true)] (none) (by kernel_rfl) (by kernel_rfl) ?_
          (repeat (with_reducible refine wpOrd_soft (fun K hK => ?_); simp only [List.getElem?_toArray, List.getElem?_cons_zero, List.getElem?_cons_succ]; first | (go_simp; refine hK _ ?_) | (simp only [undef]; go_simp; refine hK _ ?_); clear hK K))
          (with_reducible refine wpOrd_hard ?_; simp only [List.getElem?_toArray, List.getElem?_cons_zero, List.getElem?_cons_succ])
          go_wp2_with fail
          refine (sumOf_any (S : Int) _ lim _ (Ints.mono HLI.out (Below.refl _ _).drew) HLB.out hl8 HS.out.symm).mono ?_
          rintro e w4 ⟨rfl, he⟩
          have hb4 : Below wr.heap.size wr w4 := by rw [he]; exact (Below.refl _ _).drew
          clear he
          go_wp2_with fail
          refine ⟨grown_of_below hb4, ?_⟩
          (repeat (with_reducible refine wpOrd_soft (fun K hK => ?_); simp only [List.getElem?_toArray, List.getElem?_cons_zero, List.getElem?_cons_succ]; first | (go_simp; refine hK _ ?_) | (simp only [undef]; go_simp; refine hK _ ?_); clear hK K))
          (with_reducible refine wpOrd_hard ?_; simp only [List.getElem?_toArray, List.getElem?_cons_zero, List.getElem?_cons_succ])
          go_wp2_with fail
          refine (doneD_any true p0 _ _ _ _ _ _ _ _ _ cnt R.found vf R.left R.spent _ (HC.out.box.mono hb4) HFC.out HSF.out).mono ?_
          rintro e w5 ⟨rfl, he⟩
          have hb5 : Below wr.heap.size wr w5 := by rw [he]; exact hb4
          clear he
          go_wp2_with fail
          refine ⟨grown_of_below hb5, ?_⟩
          (repeat (with_reducible refine wpOrd_soft (fun K hK => ?_); simp only [List.getElem?_toArray, List.getElem?_cons_zero, List.getElem?_cons_succ]; first | (go_simp; refine hK _ ?_) | (simp only [undef]; go_simp; refine hK _ ?_); clear hK K))
          (with_reducible refine wpOrd_nil ?_); refine NoPanic.normal ?_
          have hEND := HEN.out
          clear c16 c14 l0 HEN HFC HSF HC
          go_wp2_with fail
          obtain ⟨cE, fE, hCE, hFE⟩ := hEND
          have HBE := Lib.hid (hCE.two.below H13.out HNE.out.1 HNE.out.2.1 H13.out.size)
          refine (planned_any p0 _ _ _ _ _ _ _ _ _ cE fE R.left R.spent R.st R.found _ (hCE.box.mono hb5) (fun h => (hFE.1 h).1) (fun h => ⟨HRO.out.1 h, (hFE.2 h).1, Ints.mono (hFE.2 h).2.1 hb5, HRO.out.2 h⟩)).mono ?_
          rintro e w9 ⟨v9, rfl, ho9, hb9⟩
          have HO9 := Lib.hid ho9
          obtain ⟨a9, c9, rfl⟩ := ho9.form
          have HB9 := Lib.hid ((HB1.out.trans (HBE.out.mono HB1.out.size)).trans ((hb5).trans (hb9.mono (hb5).size) |>.mono (Nat.le_trans HB1.out.size HBE.out.size)))
          have HZ9 := Lib.hid (Nat.le_trans (Nat.le_trans HB1.out.size HBE.out.size) (hb5).size)
          clear hCE hFE ho9 hb9
          go_wp2
          go_ret2
          exact ⟨_, by rw [HSP.out.2, ← HRR.out]; rfl, by rw [HSP.out.1, ← HRR.out]; exact OwnRow.wide HO9.out HZ9.out (Nat.le_refl _), HB9.out⟩
      · have hkS : k = S + 1 := by omega
        have hleI : ¬ (k : Int) ≤ (S : Int) := by omega
        have hEND : ∃ cnt vf, CO w3 p0 ps (.slice az x0.zones.length cz) (.slice ag x0.weights.length cg) (.slice ab x0.base.length cb) x1.name (.slice ap x1.rings.length cp) x2 vl x0.zones.length (k : Int) cnt vf R.left R.spent [] wr ∧ FndI p0 ps R cnt vf wr := by
          rcases HST.out with ⟨l', h1, h2, h3⟩ | ⟨_, h⟩
          · rw [hkS, Nat.sub_self] at h2
            rw [← h2]
            exact ⟨0, _, h3, fun _ => ⟨rfl, rfl⟩, (fun h => by cases h)⟩
          · exact h
        clear hkS
        go_wp2_with fail
        refine wp_region_ord [(0, true), (1, true), (2, true), (3, true), (4, true), (5, true), (6, true), (7, true), (8, false), (9, true), (10, true), (11, true), (12, false), (13, true), (14, true)] (none) (by kernel_rfl) (by kernel_rfl) ?_
        (repeat (with_reducible refine wpOrd_soft (fun K hK => ?_); simp only [List.getElem?_toArray, List.getElem?_cons_zero, List.getElem?_cons_succ]; first | (go_simp; refine hK _ ?_) | (simp only [undef]; go_simp; refine hK _ ?_); clear hK K))
        (with_reducible refine wpOrd_hard ?_; simp only [List.getElem?_toArray, List.getElem?_cons_zero, List.getElem?_cons_succ])
        go_wp2_with fail
        refine (sumOf_any (S : Int) _ lim _ (Ints.mono HLI.out (Below.refl _ _).drew) HLB.out hl8 HS.out.symm).mono ?_
        rintro e w4 ⟨rfl, he⟩
        have hb4 : Below wr.heap.size wr w4 := by rw [he]; exact (Below.refl _ _).drew
        clear he
        go_wp2_with fail
        refine ⟨grown_of_below hb4, ?_⟩
        (repeat (with_reducible refine wpOrd_soft (fun K hK => ?_); simp only [List.getElem?_toArray, List.getElem?_cons_zero, List.getElem?_cons_succ]; first | (go_simp; refine hK _ ?_) | (simp only [undef]; go_simp; refine hK _ ?_); clear hK K))
        (with_reducible refine wpOrd_skip ?_ (fun K hK => ?_); exact grown_of_below hb4; simp only [List.getElem?_toArray, List.getElem?_cons_zero, List.getElem?_cons_succ]; first | (go_simp; refine hK _ ?_) | (simp only [undef]; go_simp; refine hK _ ?_); clear hK K)
        (repeat (with_reducible refine wpOrd_soft (fun K hK => ?_); simp only [List.getElem?_toArray, List.getElem?_cons_zero, List.getElem?_cons_succ]; first | (go_simp; refine hK _ ?_) | (simp only [undef]; go_simp; refine hK _ ?_); clear hK K))
        (with_reducible refine wpOrd_nil ?_); refine NoPanic.normal ?_
        clear c16 c14 l0
        go_wp2_with fail
        obtain ⟨cE, fE, hCE, hFE⟩ := hEND
        have HBE := Lib.hid (hCE.two.below H13.out HNE.out.1 HNE.out.2.1 H13.out.size)
        refine (planned_any p0 _ _ _ _ _ _ _ _ _ cE fE R.left R.spent R.st R.found _ (hCE.box.mono hb4) (fun h => (hFE.1 h).1) (fun h => ⟨HRO.out.1 h, (hFE.2 h).1, Ints.mono (hFE.2 h).2.1 hb4, HRO.out.2 h⟩)).mono ?_
        rintro e w9 ⟨v9, rfl, ho9, hb9⟩
        have HO9 := Lib.hid ho9
        obtain ⟨a9, c9, rfl⟩ := ho9.form
        have HB9 := Lib.hid ((HB1.out.trans (HBE.out.mono HB1.out.size)).trans ((hb4).trans (hb9.mono (hb4).size) |>.mono (Nat.le_trans HB1.out.size HBE.out.size)))
        have HZ9 := Lib.hid (Nat.le_trans (Nat.le_trans HB1.out.size HBE.out.size) (hb4).size)
        clear hCE hFE ho9 hb9
        go_wp2
        go_ret2
        exact ⟨_, by rw [HSP.out.2, ← HRR.out]; rfl, by rw [HSP.out.1, ← HRR.out]; exact OwnRow.wide HO9.out HZ9.out (Nat.le_refl _), HB9.out⟩
  · have d0 : (r != 0) = true := by simpa using g
    have HSP := Lib.hid (sp_bad (show ¬ seaC x0 x1 x2 n = 0 by rw [← hr]; exact g))
    clear hr g B1 B2 B3
    go_wp2
    go_ret2
    exact ⟨_, by rw [HSP.out.2, ← HR.out]; rfl, by rw [HSP.out.1]; exact OwnRow.mk' (owns_nil _ _ _ _), HB1.out⟩
end Go.Proofs.YtenedpboehkmjaaGreat
/- The beginning of a search of the reference. -/
set_option linter.unusedSimpArgs false
set_option linter.unnecessarySimpa false
set_option linter.unusedVariables false
set_option maxRecDepth 100000
namespace Go.Proofs.YtenedpboehkmjaaGreat
open Go.RowKit

/-- What l10Begin leaves when a search may begin. -/
structure BegS (w : World) (vm vp vg : Value) (lim : List Int) (m : Nat) (e : Ending) (w' w1 : World) (a : Option Addr) (c : Nat) : Prop where
  ret : e = .returned (.tuple #[ptr w1.heap.size 0, .int .i64 0])
  bel : Below w.heap.size w w1
  box : Box w' w1.heap.size (fS vm vp vg (.slice a lim.length c) m (-1) (.slice none 0 0) 0 (.slice none 0 0) 0 m false)
  own : w'.ownsRow (w1.heap.size + 1) 2 1 (.slice a lim.length c) lim.length (lim.map (Value.int .i64))
  bel' : Below w1.heap.size w1 w'
set_option maxHeartbeats 2000000 in
theorem l10Begin_ok (q o : Nat) (x : ModD) (q2 o2 : Nat) (p : PrfD) (q3 o3 : Nat) (g : GoalD) (m : Nat) (w : World) {az cz ag cg ab cb} {a : Option Addr} {c : Nat} (hm : ModIn w q o x az cz ag cg ab cb) (hp : PrfIn w q2 o2 p a c) (hg : GoalIn w q3 o3 g) (hn : p.name.size ≤ maxLen) (h : seaC x p g (m : Int) = 0) :
    Calls Tryz.prog 21 #[ptr q o, ptr q2 o2, ptr q3 o3, .int .i64 (m : Int)] w fun e w' => ∃ w1 a c, BegS w (ptr q o) (ptr q2 o2) (ptr q3 o3) (limL p x.zones g.most) m e w' w1 a c := by
  have HM := Lib.hid hm; have HP := Lib.hid hp; have HG := Lib.hid hg
  have A := sea_zero h
  have HA := Lib.hid A
  have hask : (0 : Int) = askC x p g := by
    by_cases h1 : askC x p g = 0
    · exact h1.symm
    · unfold seaC at h; rw [if_neg h1] at h; exact h.symm
  have HIN := Lib.hid (show true = decide ((1 : Int) ≤ (m : Int) ∧ (m : Int) ≤ 20000) from (decide_eq_true ⟨A.low, A.high⟩).symm)
  clear hm hp hg A h
  unfold ptr
  go_enter Tryz.func21, Tryz.ntmps21
  go_wp2_with fail
  refine (l10Ask_any 0 q o x q2 o2 p q3 o3 g _ HM.out HP.out HG.out hn hask).mono ?_
  rintro e w1 ⟨rfl, hb1⟩
  have HB1 := Lib.hid hb1
  clear hb1
  go_wp2_with fail
  refine (l00In_any true _ 1 20000 _ HIN.out).mono ?_
  rintro e w2 ⟨rfl, rfl⟩
  have HNW := Lib.hid (l10New_any q o x q2 o2 p q3 o3 g m w2 (HM.out.mono HB1.out) (HP.out.mono HB1.out) (HG.out.mono HB1.out) hn HA.out.okp HA.out.zo)
  unfold ptr at HNW
  go_wp2_with fail
  refine HNW.out.mono ?_
  rintro e w3 ⟨a3, c3, rfl, hbx, ho, hb3⟩
  have HX := Lib.hid hbx; have HO := Lib.hid ho; have HB3 := Lib.hid hb3
  clear hbx ho hb3 HNW
  go_wp2
  go_ret2
  have hL := limL_len (x := p) (zs := x.zones) (most := g.most)
  exact ⟨w2, a3, c3, rfl, HB1.out, by rw [hL]; exact HX.out, by rw [hL]; exact HO.out, HB3.out⟩
set_option maxHeartbeats 2000000 in
theorem l10Begin_bad (q o : Nat) (x : ModD) (q2 o2 : Nat) (p : PrfD) (q3 o3 : Nat) (g : GoalD) (n r : Int) (w : World) {az cz ag cg ab cb} {a : Option Addr} {c : Nat} (hm : ModIn w q o x az cz ag cg ab cb) (hp : PrfIn w q2 o2 p a c) (hg : GoalIn w q3 o3 g) (hn : p.name.size ≤ maxLen) (hr : r = seaC x p g n) (h : ¬ r = 0) :
    Calls Tryz.prog 21 #[ptr q o, ptr q2 o2, ptr q3 o3, .int .i64 n] w fun e w' => ∃ v, e = .returned (.tuple #[v, .int .i64 r]) ∧ Below w.heap.size w w' := by
  have HM := Lib.hid hm; have HP := Lib.hid hp; have HG := Lib.hid hg
  obtain ⟨k, hk⟩ : ∃ k, k = askC x p g := ⟨_, rfl⟩
  have HK := Lib.hid hk
  have HR := Lib.hid hr
  have HH := Lib.hid h
  clear hm hp hg hk hr h
  unfold ptr
  by_cases g1 : k = 0
  · have hin : false = decide ((1 : Int) ≤ n ∧ n ≤ 20000) := by
      refine (decide_eq_false fun h2 => HH.out ?_).symm
      rw [HR.out]; unfold seaC; rw [← HK.out, if_pos g1, if_pos h2]
    have HX := Lib.hid (show r = 2 by
      rw [HR.out]; unfold seaC; rw [← HK.out, if_pos g1]
      exact if_neg (fun h2 => by rw [decide_eq_true h2] at hin; cases hin))
    have HIN := Lib.hid hin
    clear hin
    have e1 : (k != 0) = false := by simpa using g1
    clear g1
    rw [HX.out]
    go_enter Tryz.func21, Tryz.ntmps21
    go_wp2_with fail
    refine (l10Ask_any k q o x q2 o2 p q3 o3 g _ HM.out HP.out HG.out hn HK.out).mono ?_
    rintro e w1 ⟨rfl, hb1⟩
    have HB1 := Lib.hid hb1
    clear hb1
    go_wp2_with fail
    refine (l00In_any false _ 1 20000 _ HIN.out).mono ?_
    rintro e w2 ⟨rfl, rfl⟩
    go_wp2
    go_ret2
    exact ⟨_, rfl, HB1.out.trans ((belowA _ _).mono HB1.out.size)⟩
  · have HX := Lib.hid (show r = k by rw [HR.out]; unfold seaC; rw [← HK.out, if_neg g1])
    have e1 : (k != 0) = true := by simpa using g1
    clear g1
    rw [HX.out]
    go_enter Tryz.func21, Tryz.ntmps21
    go_wp2_with fail
    refine (l10Ask_any k q o x q2 o2 p q3 o3 g _ HM.out HP.out HG.out hn HK.out).mono ?_
    rintro e w1 ⟨rfl, hb1⟩
    have HB1 := Lib.hid hb1
    clear hb1
    go_wp2
    go_ret2
    exact ⟨_, rfl, HB1.out.trans ((belowA _ _).mono HB1.out.size)⟩
end Go.Proofs.YtenedpboehkmjaaGreat
/- ShortestPlan of the reference. -/
set_option linter.unusedSimpArgs false
set_option linter.unnecessarySimpa false
set_option linter.unusedVariables false
set_option maxRecDepth 100000
namespace Go.Proofs.YtenedpboehkmjaaGreat
open Go.RowKit

/-- A number read from an object. -/
def numS (w : World) (p0 j : Nat) : Nat := match w.cell? ⟨p0, j, none⟩ with | some v => (intOf v).toNat | none => 0
theorem numS_eq {w : World} {p0 j k : Nat} (h : w.cell? ⟨p0, j, none⟩ = some (.int .i64 (k : Int))) : numS w p0 j = k := by
  unfold numS; rw [h]; simp [intOf]
theorem SO.setTotal {w1 w : World} {p0 : Nat} {vm vp vg vr : Value} {budget : Nat} {total : Int} {st : List Int} {sum : Int} {best : Value} {cnt : Int} {left : Nat} {sp : Bool} (h : SO w1 p0 vm vp vg vr budget total st sum best cnt left sp w) (hp : p0 < w1.heap.size) (t : Int) : SO w1 p0 vm vp vg vr budget t st sum best cnt left sp (w.setCell ⟨p0, 5, none⟩ (.int .i64 t)) := by
  obtain ⟨a, c, h1, h2, h3⟩ := h
  have t2 := (Two.refl p0 p0 w).setCell (a := ⟨p0, 5, none⟩) (.inl rfl) (.int .i64 t)
  exact ⟨a, c, h1.set (.int .i64 t) (j := 5) (by simp [fS]), owns_two h2 t2 (off_owns h2 hp hp), h3.trans t2⟩
set_option maxHeartbeats 8000000 in
theorem specShortestPlan_any (v0 : Value) (x0 : ModD) (v1 : Value) (x1 : PrfD) (v2 : Value) (x2 : GoalD) (n : Int) (w : World) (h0 : RdModD w v0 x0) (_ : okModD x0) (_ : szModD x0 ≤ 1048576) (h1 : RdPrf w v1 x1) (o1 : okPrf x1) (_ : szPrf x1 ≤ 1048576) (h2 : RdGoal w v2 x2) (_ : okGoal x2) (_ : szGoal x2 ≤ 1048576) (_ : I64 n) :
    Calls Tryz.prog 6 #[v0, v1, v2, .int .i64 n] w fun e w' => ∃ v, e = .returned (.tuple #[v, .int .i64 (spC x0 x1 x2 n)]) ∧ OwnCutDs w.heap.size w'.heap.size w' v (spV x0 x1 x2 n) ∧ Below w.heap.size w w' := by
  unfold RdGoal at h2
  subst h2
  have HN := Lib.hid o1.1
  obtain ⟨vz, vg, vb, rfl, hz, hg, hb⟩ := id h0
  obtain ⟨az, cz, rfl, _⟩ := id hz
  obtain ⟨ag, cg, rfl⟩ := hg.form
  obtain ⟨ab, cb, rfl, _⟩ := id hb
  obtain ⟨vp, rfl, hp⟩ := id h1
  obtain ⟨ap, cp, rfl, _⟩ := id hp
  have HZ := Lib.hid hz; have HG := Lib.hid hg; have HB := Lib.hid hb; have HPR := Lib.hid hp
  clear h0 h1 hz hg hb hp o1
  obtain ⟨r, hr⟩ : ∃ r, r = seaC x0 x1 x2 n := ⟨_, rfl⟩
  have HR := Lib.hid hr
  unfold GoalD.val
  go_enter Tryz.func6, Tryz.ntmps6
  go_wp2_with fail
  obtain ⟨wA, hA⟩ : ∃ wA, wA = ((w.alloc (.cells #[.slice az x0.zones.length cz, .slice ag x0.weights.length cg, .slice ab x0.base.length cb] 38)).alloc (.cells #[.string x1.name, .slice ap x1.rings.length cp] 42)).alloc (.cells #[.int .i64 x2.t.a, .int .i64 x2.t.b, .int .i64 x2.t.c, .int .i64 x2.t.d, .int .i64 x2.t.e, .int .i64 x2.tol, .int .i64 x2.most] 46) := ⟨_, rfl⟩
  rw [← hA]
  have hbA : Below w.heap.size w wA := by rw [hA]; (repeat (first | with_reducible exact Below.refl _ _ | with_reducible exact hbw | (with_reducible refine Below.setCell ?_ ?_ _; rotate_left; · first | exact Nat.le_refl _ | omega | (simp; done) | (simp; omega)) | (with_reducible refine Below.alloc ?_ ?_ _; rotate_left; · first | exact Nat.le_refl _ | omega | (simp; done) | (simp; omega)) | with_reducible refine below_drewN ?_ _ | with_reducible refine Below.drew ?_))
  have B1 : Box wA w.heap.size [.slice az x0.zones.length cz, .slice ag x0.weights.length cg, .slice ab x0.base.length cb] := by
    rw [hA]; exact ((Box.alloc w _ _ _ rfl).mono (belowA _ _)).mono (belowA _ _)
  have B2 : Box wA (w.heap.size + 1) [.string x1.name, .slice ap x1.rings.length cp] := by
    rw [hA]; exact (Box.alloc _ _ _ _ (by simp)).mono (belowA _ _)
  have B3 : Box wA (w.heap.size + 1 + 1) [.int .i64 x2.t.a, .int .i64 x2.t.b, .int .i64 x2.t.c, .int .i64 x2.t.d, .int .i64 x2.t.e, .int .i64 x2.tol, .int .i64 x2.most] := by
    rw [hA]; exact Box.alloc _ _ _ _ (by simp)
  clear hA
  have HIM := Lib.hid (show ModIn wA w.heap.size 0 x0 az cz ag cg ab cb from ⟨B1.lt, B1.at' 0 _ rfl, B1.at' 1 _ rfl, B1.at' 2 _ rfl, Ints.mono HZ.out hbA, HG.out.mono hbA, Ints.mono HB.out hbA⟩)
  have HIP := Lib.hid (show PrfIn wA (w.heap.size + 1) 0 x1 ap cp from ⟨B2.lt, B2.at' 0 _ rfl, B2.at' 1 _ rfl, HPR.out.mono hbA⟩)
  have HIG := Lib.hid (show GoalIn wA (w.heap.size + 1 + 1) 0 x2 from ⟨⟨B3.lt, B3.at' 0 _ rfl, B3.at' 1 _ rfl, B3.at' 2 _ rfl, B3.at' 3 _ rfl, B3.at' 4 _ rfl⟩, B3.at' 5 _ rfl, B3.at' 6 _ rfl⟩)
  have HBA := Lib.hid hbA
  clear hbA B1 B2 B3
  by_cases g : r = 0
  · have HSP := Lib.hid (sp_ok (show seaC x0 x1 x2 n = 0 by rw [← hr]; exact g))
    have A := sea_zero (show seaC x0 x1 x2 n = 0 by rw [← hr]; exact g)
    have HA := Lib.hid A
    obtain ⟨m, rfl⟩ : ∃ m : Nat, n = m := ⟨n.toNat, by have := A.low; omega⟩
    have hm : (m : Int) ≤ 20000 := A.high
    have HS0 := Lib.hid (show seaC x0 x1 x2 (m : Int) = 0 by rw [← hr]; exact g)
    clear A hr g
    have HBG := Lib.hid (l10Begin_ok w.heap.size 0 x0 (w.heap.size + 1) 0 x1 (w.heap.size + 1 + 1) 0 x2 m wA HIM.out HIP.out HIG.out HN.out HS0.out)
    unfold ptr at HBG
    refine HBG.out.mono ?_
    rintro e w2 ⟨w1, a0, c0, hBS⟩
    obtain ⟨rfl, hb1, hbx, ho, hb2⟩ := hBS
    obtain ⟨lim, hlim⟩ : ∃ lim, lim = limL x1 x0.zones x2.most := ⟨_, rfl⟩
    rw [← hlim] at hbx ho
    have HLIM := Lib.hid hlim
    have HLB := Lib.hid (show ∀ i, i < lim.length → 0 ≤ lim.getD i 0 ∧ lim.getD i 0 ≤ 20 by rw [hlim]; exact lim_bd HA.out)
    have hll : lim.length = x0.zones.length := by rw [hlim]; exact limL_len
    have hl8 : lim.length ≤ 8 := by rw [hll]; exact HA.out.zo.1.2
    have hl1 : 1 ≤ lim.length := by rw [hll]; exact HA.out.zo.1.1
    have hsb : 0 ≤ sumL lim ∧ sumL lim ≤ 160 := by rw [hlim]; exact sum_bd HA.out
    have HSB := Lib.hid hsb
    obtain ⟨S, hS⟩ : ∃ S : Nat, sumL lim = (S : Int) := Int.eq_ofNat_of_zero_le hsb.1
    have hS160 : S ≤ 160 := by omega
    have HS := Lib.hid hS
    obtain ⟨low, hlow⟩ : ∃ low, low = lowP x0 x1 x2 := ⟨_, rfl⟩
    obtain ⟨plan, hplan⟩ : ∃ plan, plan = planP x0 x1 x2 := ⟨_, rfl⟩
    obtain ⟨R, hR⟩ : ∃ R, R = spR x0 x1 x2 (m : Int) := ⟨_, rfl⟩
    have HRR := Lib.hid hR
    have HR0 := Lib.hid (show shortP lim low plan (S + 1 - 0) 0 m = R by
      rw [hR]; unfold spR
      rw [← hlim, ← hlow, ← hplan, hS, Int.toNat_natCast, Int.toNat_natCast]; rfl)
    have HB1 := Lib.hid (HBA.out.trans (hb1.mono HBA.out.size))
    have HE := Lib.hid (show EnvS w1 w.heap.size 0 x0 (w.heap.size + 1) 0 x1 (w.heap.size + 1 + 1) 0 x2 from ⟨⟨az, cz, ag, cg, ab, cb, HIM.out.mono hb1⟩, ⟨ap, cp, HIP.out.mono hb1⟩, HIG.out.mono hb1, HA.out.okm, HA.out.okp, HA.out.okg, HA.out.zo, HN.out⟩)
    obtain ⟨p0, hp0⟩ : ∃ p0, p0 = w1.heap.size := ⟨_, rfl⟩
    rw [← hp0] at hbx ho hb2
    unfold ptr
    rw [← hp0]
    have HP0 := Lib.hid hp0
    have HBX := Lib.hid hbx; have HO := Lib.hid ho; have HB2 := Lib.hid hb2
    have HLI := Lib.hid (show Ints w2 (.slice a0 lim.length c0) lim from Sl.of_owns ho)
    obtain ⟨b9, o9, rfl, hcx⟩ := HLI.out.cells (by rw [List.length_map]; omega)
    clear hcx
    have HLOW := Lib.hid hlow; have HPLAN := Lib.hid hplan
    clear hb1 hbx ho hb2 hlim hll hsb hS hlow hplan hR hp0 HBG
    go_wp2_with fail
    go_loopw [12, 13] (fun sv iv wr => ∃ k : Nat, k ≤ lim.length ∧ iv = .int .i64 (k : Int) ∧ sv = .int .i64 (sumL (lim.take k)) ∧ wr = w2) (fun _ iv _ => lim.length - (intOf iv).toNat)
    case atStart => exact ⟨0, Nat.zero_le _, by go_num, by simp [sumL], rfl⟩
    case round =>
      obtain ⟨k, hk, rfl, rfl, rfl⟩ := hrel
      have c3 := HBX.out.at' 3 _ rfl
      have l0 := HBX.out.lt
      by_cases hlt : k < lim.length
      · have hsb := sumL_bd HLB.out k hk
        obtain ⟨_, _, e1, c1⟩ := HLI.out.cells (by simp; omega)
        cases e1
        have d1 := c1 k (.int .i64 (lim.getD k 0)) (by simp [hlt])
        have h20 := HLB.out k hlt
        have HNX := Lib.hid (sumL_next hlt)
        obtain ⟨s0, hs0⟩ : ∃ s0, s0 = lim.getD k 0 := ⟨_, rfl⟩
        obtain ⟨t0, ht0⟩ : ∃ t0, t0 = sumL (lim.take k) := ⟨_, rfl⟩
        rw [← hs0] at d1 h20 HNX
        rw [← ht0] at hsb HNX ⊢
        have hkI : (k : Int) < (lim.length : Int) := by omega
        have w1' : IntKind.i64.wrap (t0 + s0) = t0 + s0 := IntWalk.i64_in _ (by omega)
        clear c1 hs0 ht0
        go_wp2
        go_roundw
        case rel => exact ⟨k + 1, by omega, by go_num, by rw [HNX.out], trivial⟩
        case measure => simp [intOf] <;> omega
      · obtain rfl : k = lim.length := by omega
        rw [List.take_length, HS.out]
        have c5 := HBX.out.at' 5 _ rfl
        have f5 := HBX.out.fr 5
        have ho' := owns_two (owns_nil wr 2 1 (p0 + 1)) (Two.refl p0 p0 wr) (off_owns (owns_nil wr 2 1 (p0 + 1)) (Nat.lt_succ_self p0) (Nat.lt_succ_self p0))
        have hT := (Two.refl p0 p0 wr).setCell (a := ⟨p0, 5, none⟩) (.inl rfl) (.int .i64 0)
        have q1 := HBX.out.set (.int .i64 0) (j := 5) (by simp [fS])
        have q3 := HLI.out.two hT (off_owns HO.out (Nat.lt_succ_self p0) (Nat.lt_succ_self p0))
        have H13 := hT.below HB2.out (Nat.le_refl _) (Nat.le_refl _) (Nat.le_of_lt l0)
        go_wp2_with fail
        obtain ⟨w3, hw3⟩ : ∃ w3, w3 = wr.setCell ⟨p0, 5, none⟩ (.int .i64 0) := ⟨_, rfl⟩
        rw [← hw3] at hT q1 q3 H13 ⊢
        have hp3 : p0 < w3.heap.size := Nat.lt_of_lt_of_le l0 hT.size
        have H13b := Lib.hid H13
        have HSO := Lib.hid (show SO w3 p0 (.pointer (some ⟨w.heap.size, 0, none⟩)) (.pointer (some ⟨w.heap.size + 1, 0, none⟩)) (.pointer (some ⟨w.heap.size + 1 + 1, 0, none⟩)) (.slice (some ⟨b9, o9, none⟩) lim.length c0) m 0 [] 0 (.slice none 0 0) 0 m false w3 from ⟨none, 0, q1, owns_nil _ _ _ _, Two.refl _ _ _⟩)
        have HRUN := Lib.hid (fun (total : Int) (ht0 : 0 ≤ total) (ht1 : total ≤ 1000) => run_any w1 w3 p0 w.heap.size 0 x0 (w.heap.size + 1) 0 x1 (w.heap.size + 1 + 1) 0 x2 (.slice (some ⟨b9, o9, none⟩) lim.length c0) lim m total HE.out HP0.out.symm H13b.out hp3 q3 (off_owns HO.out (Nat.lt_succ_self p0) (Nat.lt_succ_self p0)) HLIM.out ht0 ht1 (by omega))
        rw [← HLOW.out, ← HPLAN.out] at HRUN
        have H13 := Lib.hid H13
        have HPW := Lib.hid (show w.heap.size ≤ p0 by rw [HP0.out]; exact HB1.out.size)
        clear hw3 hT q1 q3 ho' c3 c5 f5 l0 H13b hlt hk
        go_loopw [] (fun wr => ∃ (k left' : Nat), k ≤ S + 1 ∧ left' ≤ m ∧ shortP lim low plan (S + 1 - k) k left' = R ∧ SO w3 p0 (.pointer (some ⟨w.heap.size, 0, none⟩)) (.pointer (some ⟨w.heap.size + 1, 0, none⟩)) (.pointer (some ⟨w.heap.size + 1 + 1, 0, none⟩)) (.slice (some ⟨b9, o9, none⟩) lim.length c0) m (k : Int) [] 0 (.slice none 0 0) 0 left' false wr) (fun wr => S + 1 - numS wr p0 5)
        case atStart => exact ⟨0, m, Nat.zero_le _, Nat.le_refl _, HR0.out, HSO.out⟩
        case round =>
          obtain ⟨k, left', hk, hl', ht', hSO⟩ := hrel
          have HT0 := Lib.hid ht'
          have HC := Lib.hid hSO
          obtain ⟨aS, cS, hbS, _, htS⟩ := hSO
          have c5 := hbS.at' 5 _ rfl
          have l0 := hbS.lt
          have HC5 := Lib.hid c5
          have HBT := Lib.hid (htS.below H13.out (Nat.le_refl _) (Nat.le_refl _) (Nat.le_of_lt hp3))
          clear ht' hbS htS
          by_cases hle : k ≤ S
          · have hleI : (k : Int) ≤ (S : Int) := by omega
            have HT := Lib.hid (show shortP lim low plan ((S - k) + 1) k left' = R by rw [← HT0.out]; congr 1; omega)
            have HIH := Lib.hid (HRUN.out (k : Int) (by omega) (by omega) lim.length [] left' _ (by simp) (stIn_nil _) hl' HC.out)
            unfold ptr at HIH
            go_wp2_with fail
            refine HIH.out.mono ?_
            rintro e w6 ⟨rfl, vb, cnt, hSO6, hnf, hfd⟩
            have hok := runP_ok lim low plan (k : Int) (fun i hi => (HLB.out i hi).1) lim.length [] left' (by simp) (stIn_nil _)
            obtain ⟨r0, hr0⟩ : ∃ r0, r0 = runP lim low plan (k : Int) lim.length [] left' := ⟨_, rfl⟩
            rw [← hr0] at hSO6 hok hnf hfd ⊢
            have HRr := Lib.hid hr0
            have HOK := Lib.hid hok
            clear hr0 HIH c5 l0 HT0
            obtain ⟨a6, c6, hb6, ho6, ht6⟩ := id hSO6
            have HSO6 := Lib.hid hSO6
            have c9 := hb6.at' 9 _ rfl
            have c14 := hb6.at' 14 _ rfl
            have c5 := hb6.at' 5 _ rfl
            have f5 := hb6.fr 5
            have l6 := hb6.lt
            have HBW := Lib.hid (HB1.out.trans ((ht6.below H13.out (Nat.le_refl _) (Nat.le_refl _) (Nat.le_of_lt hp3)).mono HPW.out))
            clear hSO6 hb6 ho6 ht6
            cases hf : r0.found
            · obtain ⟨e1, e2⟩ := hnf hf
              subst e1 e2
              have HF := Lib.hid hf
              clear hok hnf hfd hf
              cases hs : r0.spent
              · rw [hs] at c14
                have HSS := Lib.hid hs
                clear hs
                have h7 := HSO6.out.setTotal hp3 ((k : Int) + 1)
                have E7 := Lib.hid (show ((k + 1 : Nat) : Int) = (k : Int) + 1 by omega)
                have HM := Lib.hid (show numS (w6.setCell ⟨p0, 5, none⟩ (.int .i64 ((k : Int) + 1))) p0 5 = k + 1 from numS_eq (by
                  rw [E7.out]
                  obtain ⟨_, _, b7, _⟩ := h7
                  exact b7.at' 5 _ rfl))
                have H7 := Lib.hid h7
                clear h7
                have w1' : IntKind.i64.wrap ((k : Int) + 1) = (k : Int) + 1 := IntWalk.i64_in _ (by omega)
                go_wp2_with fail
                refine ⟨⟨k + 1, r0.left, by omega, by have := HOK.out.left; omega, ?_, by have := H7.out; rw [HSS.out] at this; rw [E7.out]; exact this⟩, by rw [HM.out, numS_eq HC5.out]; omega⟩
                rw [← HT.out, shortP_next (by rw [← HRr.out]; exact HF.out) (by rw [← HRr.out]; exact HSS.out), ← HRr.out]
                congr 1; omega
              · rw [hs] at c14
                have E : R = ⟨false, [], r0.left, true⟩ := by
                  rw [← HT.out, shortP_spent (by rw [← HRr.out]; exact HF.out) (by rw [← HRr.out]; exact hs), ← HRr.out]
                have P := Lib.hid (pl_full (R := R) (by rw [E]) (by rw [E]))
                clear hs E
                go_wp2
                go_ret2
                exact ⟨_, by rw [HSP.out.2, ← HRR.out, P.out.2]; rfl, by rw [HSP.out.1, ← HRR.out, P.out.1]; exact OwnRow.mk' (owns_nil _ _ _ _), HBW.out⟩
            · obtain ⟨hvi, _⟩ := hfd hf
              have E : R = r0 := by rw [← HT.out, HRr.out]; exact shortP_found (by rw [← HRr.out]; exact hf)
              have P := Lib.hid (pl_yes (R := R) (by rw [E]; exact hf))
              have h8 : r0.st.length ≤ 8 := by
                have := (HOK.out.found hf).2.1
                rw [this]; simpa using hl8
              have H8 := Lib.hid h8
              have HVI := Lib.hid hvi
              obtain ⟨av, cv, rfl, _⟩ := id hvi
              have HEE := Lib.hid E
              clear hok hnf hfd hf hvi h8 E
              go_wp2_with fail
              refine (l10Cuts_any _ r0.st _ HVI.out H8.out).mono ?_
              rintro e w7 ⟨v7, rfl, ho7, hb7⟩
              have HO7 := Lib.hid ho7
              obtain ⟨a7, c7, rfl⟩ := ho7.form
              have HB7 := Lib.hid (HBW.out.trans (hb7.mono HBW.out.size))
              clear ho7 hb7
              go_wp2
              go_ret2
              exact ⟨_, by rw [HSP.out.2, ← HRR.out, P.out.2]; rfl, by rw [HSP.out.1, ← HRR.out, P.out.1, HEE.out]; exact OwnRow.wide HO7.out HBW.out.size (Nat.le_refl _), HB7.out⟩
          · have hkS : k = S + 1 := by omega
            have hleI : ¬ (k : Int) ≤ (S : Int) := by omega
            have E : R = ⟨false, [], left', false⟩ := by rw [← HT0.out, hkS, Nat.sub_self]; rfl
            have P := Lib.hid (pl_none (R := R) (by rw [E]) (by rw [E]))
            have HBW := Lib.hid (HB1.out.trans (HBT.out.mono HPW.out))
            clear hkS E
            go_wp2
            go_ret2
            exact ⟨_, by rw [HSP.out.2, ← HRR.out, P.out.2]; rfl, by rw [HSP.out.1, ← HRR.out, P.out.1]; exact OwnRow.mk' (owns_nil _ _ _ _), HBW.out⟩
  · have HSP := Lib.hid (sp_bad (show ¬ seaC x0 x1 x2 n = 0 by rw [← hr]; exact g))
    have HX := Lib.hid (l10Begin_bad w.heap.size 0 x0 (w.heap.size + 1) 0 x1 (w.heap.size + 1 + 1) 0 x2 n r wA HIM.out HIP.out HIG.out HN.out hr g)
    unfold ptr at HX
    have d0 : (r != 0) = true := by simpa using g
    clear hr g
    refine HX.out.mono ?_
    rintro e w1 ⟨v1, rfl, hb1⟩
    have HB1 := Lib.hid (HBA.out.trans (hb1.mono HBA.out.size))
    clear hb1
    go_wp2
    go_ret2
    exact ⟨_, by rw [HSP.out.2, ← HR.out]; rfl, by rw [HSP.out.1]; exact OwnRow.mk' (owns_nil _ _ _ _), HB1.out⟩
end Go.Proofs.YtenedpboehkmjaaGreat
