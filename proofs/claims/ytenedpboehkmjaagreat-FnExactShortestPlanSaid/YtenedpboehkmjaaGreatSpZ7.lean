import Derived.Test.YtenedpboehkmjaaGreatSpZ5
import Derived.Test.YtenedpboehkmjaaGreatSpZ6
import Derived.Test.YtenedpboehkmjaaGreatSpZ2
/- Rings and profiles of the program: ValidRing, height. -/
set_option linter.unusedSimpArgs false
set_option linter.unnecessarySimpa false
set_option linter.unusedVariables false
set_option maxRecDepth 100000
namespace Go.Proofs.YtenedpboehkmjaaGreat
open Go.RowKit

set_option maxHeartbeats 1000000 in
theorem ValidRing_any (b : Bool) (r : Rng) (w : World) (hr : b = decide (ringOk r)) :
    Calls Tryz.prog 121 #[.agg #[.int .i64 r.outer, .int .i64 r.inner, .int .i64 r.height]] w fun e w' => e = .returned (.bool b) ∧ Below w.heap.size w w' := by
  obtain ⟨b1, hb1⟩ : ∃ b, b = decide (500 ≤ r.outer ∧ r.outer ≤ 150000) := ⟨_, rfl⟩
  obtain ⟨b2, hb2⟩ : ∃ b, b = decide (0 ≤ r.inner ∧ r.inner ≤ r.outer - 100) := ⟨_, rfl⟩
  obtain ⟨b3, hb3⟩ : ∃ b, b = decide (10 ≤ r.height ∧ r.height ≤ 300000) := ⟨_, rfl⟩
  have HR := Lib.hid (show b = (b1 && (b2 && b3)) by
    rw [hr, hb1, hb2, hb3, Bool.eq_iff_iff]; unfold ringOk; simp only [Bool.and_eq_true, decide_eq_true_eq]; exact ⟨of_decide_eq_true, decide_eq_true⟩)
  have H1 := Lib.hid hb1; have H2 := Lib.hid hb2; have H3 := Lib.hid hb3
  clear hb1 hb2 hb3 hr
  go_enter Tryz.func121, Tryz.ntmps121
  cases b1
  · skip
    go_wp2_with fail
    refine (within_any _ r.outer 500 150000 _ H1.out).mono ?_
    rintro e w1 ⟨rfl, rfl⟩
    go_wp2
    go_ret
    exact ⟨by rw [HR.out]; rfl, belowA _ _⟩
  · have h1 := of_decide_eq_true H1.out.symm
    have w1' : IntKind.i64.wrap (r.outer - 100) = r.outer - 100 := IntWalk.i64_in _ (by omega)
    clear h1
    go_wp2_with fail
    refine (within_any _ r.outer 500 150000 _ H1.out).mono ?_
    rintro e w1 ⟨rfl, rfl⟩
    cases b2
    · skip
      go_wp2_with fail
      refine (within_any _ r.inner 0 (r.outer - 100) _ H2.out).mono ?_
      rintro e w2 ⟨rfl, rfl⟩
      go_wp2
      go_ret
      exact ⟨by rw [HR.out]; rfl, belowA _ _⟩
    · skip
      go_wp2_with fail
      refine (within_any _ r.inner 0 (r.outer - 100) _ H2.out).mono ?_
      rintro e w2 ⟨rfl, rfl⟩
      cases b3
      · skip
        go_wp2_with fail
        refine (within_any _ r.height 10 300000 _ H3.out).mono ?_
        rintro e w3 ⟨rfl, rfl⟩
        go_wp2
        go_ret
        exact ⟨by rw [HR.out]; rfl, belowA _ _⟩
      · skip
        go_wp2_with fail
        refine (within_any _ r.height 10 300000 _ H3.out).mono ?_
        rintro e w3 ⟨rfl, rfl⟩
        go_wp2
        go_ret
        exact ⟨by rw [HR.out]; rfl, belowA _ _⟩
set_option maxHeartbeats 1000000 in
theorem badRing_any (b : Bool) (r : Rng) (w : World) (hr : b = decide (ringOk r)) :
    Calls Tryz.prog 120 #[.agg #[.int .i64 r.outer, .int .i64 r.inner, .int .i64 r.height]] w fun e w' => e = .returned (.bool (!b)) ∧ Below w.heap.size w w' := by
  have HR := Lib.hid hr
  clear hr
  go_enter Tryz.func120, Tryz.ntmps120
  go_wp2_with fail
  have hbA := belowA w (.cells #[.int .i64 r.outer, .int .i64 r.inner, .int .i64 r.height] 96)
  refine (ValidRing_any b r _ HR.out).mono ?_
  rintro e w' ⟨rfl, hb⟩
  have HB := Lib.hid (hbA.trans (hb.mono hbA.size))
  clear hb hbA
  go_wp2
  go_ret
  exact ⟨rfl, HB.out⟩
set_option maxHeartbeats 1000000 in
theorem height_any (v : Value) (x : PrfD) (w : World) (h : RdPrf w v x) (hk : ∀ i, i < x.rings.length → ringOk (rg x.rings i)) (h32 : x.rings.length ≤ 32) :
    Calls Tryz.prog 122 #[v] w fun e w' => e = .returned (.int .i64 (hgt x.rings)) ∧ Below w.heap.size w w' := by
  obtain ⟨lv, rfl, hr⟩ := h
  obtain ⟨a, c, rfl, _⟩ := id hr
  have HB := Lib.hid (fun k (h : k ≤ x.rings.length) => hgt_bd k h hk)
  have HK := Lib.hid hk
  have HRS := Lib.hid hr
  clear hk hr
  go_enter Tryz.func122, Tryz.ntmps122
  go_wp2
  go_loopw [3, 9] (fun sv iv wr => ∃ k : Nat, k ≤ x.rings.length ∧ iv = .int .i64 (k : Int) ∧ sv = .int .i64 (hgt (x.rings.take k)) ∧ Below w.heap.size w wr) (fun _ iv _ => x.rings.length - (intOf iv).toNat)
  case atStart => exact ⟨0, Nat.zero_le _, by go_num, rfl, by (repeat (first | with_reducible exact Below.refl _ _ | with_reducible exact hbw | (with_reducible refine Below.setCell ?_ ?_ _; rotate_left; · first | exact Nat.le_refl _ | omega | (simp; done) | (simp; omega)) | (with_reducible refine Below.alloc ?_ ?_ _; rotate_left; · first | exact Nat.le_refl _ | omega | (simp; done) | (simp; omega)) | with_reducible refine below_drewN ?_ _ | with_reducible refine Below.drew ?_))⟩
  case round =>
    obtain ⟨k, hk, rfl, rfl, hbw⟩ := hrel
    by_cases hlt : k < x.rings.length
    · obtain ⟨b1, o1, rfl, hB, d0, d1, d2⟩ := (HRS.out.mono hbw).at hlt
      have hg := hgt_next hlt
      rw [rg_at hlt] at hg
      obtain ⟨t, ht⟩ : ∃ t, t = hgt (x.rings.take k) := ⟨_, rfl⟩
      have hbd := HB.out k (by omega)
      have hrk := (HK.out k hlt).2.2
      rw [rg_at hlt] at hrk
      rw [← ht] at hg hbd ⊢
      have w1' : IntKind.i64.wrap (t + x.rings[k].height) = t + x.rings[k].height := IntWalk.i64_in _ (by omega)
      have HG := Lib.hid hg
      have hz := hbw.size
      clear hg ht hrk
      go_wp2
      go_roundw
      case rel => exact ⟨k + 1, by omega, by go_num, by rw [HG.out], by (repeat (first | with_reducible exact Below.refl _ _ | with_reducible exact hbw | (with_reducible refine Below.setCell ?_ ?_ _; rotate_left; · first | exact Nat.le_refl _ | omega | (simp; done) | (simp; omega)) | (with_reducible refine Below.alloc ?_ ?_ _; rotate_left; · first | exact Nat.le_refl _ | omega | (simp; done) | (simp; omega)) | with_reducible refine below_drewN ?_ _ | with_reducible refine Below.drew ?_))⟩
      case measure => simp [intOf]; omega
    · obtain rfl : k = x.rings.length := by omega
      rw [List.take_length]
      go_wp2
      go_ret
      exact ⟨rfl, hbw⟩
end Go.Proofs.YtenedpboehkmjaaGreat
/- Contracts of IndexFunc and ContainsFunc at rings. -/
set_option linter.unusedSimpArgs false
set_option linter.unnecessarySimpa false
set_option linter.unusedVariables false
set_option maxRecDepth 100000
namespace Go.Proofs.YtenedpboehkmjaaGreat
open Go.RowKit

/-- r is the first index with a property, or -1. -/
def IdxR (P : Rng → Bool) (ts : List Rng) (r : Int) : Prop :=
  (r = -1 ∧ ∀ j (hj : j < ts.length), P ts[j] = false) ∨ ∃ (k : Nat) (hk : k < ts.length), r = (k : Int) ∧ P ts[k] = true ∧ ∀ j (hj : j < ts.length), j < k → P ts[j] = false
theorem IdxR.any {P : Rng → Bool} {ts : List Rng} {r : Int} (h : IdxR P ts r) : decide (0 ≤ r) = ts.any P := by
  rcases h with ⟨rfl, h⟩ | ⟨k, hk, rfl, h1, _⟩
  · have : ts.any P = false := by
      rw [List.any_eq_false]
      intro x hx
      obtain ⟨j, hj, rfl⟩ := List.getElem_of_mem hx
      rw [h j hj]; exact Bool.false_ne_true
    rw [this]; rfl
  · have : ts.any P = true := List.any_eq_true.2 ⟨_, List.getElem_mem hk, h1⟩
    rw [this]; simp

set_option maxHeartbeats 1000000 in
theorem idxR_any (N : Nat) (P : Rng → Bool) (v : Value) (ts : List Rng) (w : World) (h : Rngs w v ts)
    (hN : ∀ args w, Sem.run Tryz.prog (callFunc N args) w = .ok (.enter N args) w)
    (hF : ∀ k (hk : k < ts.length) (w1 : World), Below w.heap.size w w1 → Calls Tryz.prog N #[.agg #[.int .i64 ts[k].outer, .int .i64 ts[k].inner, .int .i64 ts[k].height]] w1 fun e w2 => e = .returned (.bool (P ts[k])) ∧ Below w1.heap.size w1 w2) :
    Calls Tryz.prog 133 #[v, .func (.func N) #[] #[]] w fun e w' => ∃ r : Int, e = .returned (.int .i64 r) ∧ IdxR P ts r ∧ Below w.heap.size w w' := by
  obtain ⟨a, ca, rfl, hca, hcm, _⟩ := id h
  have hm : ts.length ≤ maxLen := by omega
  clear hca hcm
  unfold maxLen at hm
  have HF := Lib.hid hF; clear hF
  go_enter Tryz.func133, Tryz.ntmps133
  go_wp2_with fail
  go_loopw [8, 5] (fun i _ wr => ∃ k : Nat, k ≤ ts.length ∧ i = .int .i64 (k : Int) ∧ (∀ j (hj : j < ts.length), j < k → P ts[j] = false) ∧ Below w.heap.size w wr) (fun i _ _ => ts.length - (intOf i).toNat)
  case atStart => exact ⟨0, Nat.zero_le _, by go_num, by intro j hj h; omega, Below.refl _ _⟩
  case round =>
    obtain ⟨k, hk, rfl, ht, hb⟩ := hrel
    have HT := Lib.hid ht; clear ht
    by_cases hlt : k < ts.length
    · obtain ⟨b1, o1, rfl, hB1, d0, d1, d2⟩ := (h.mono hb).at hlt
      have hz := hb.size
      by_cases g : P ts[k] = true
      · have G := Lib.hid g; clear g
        go_wp2_with fail
        refine (HF.out k hlt _ hb).mono ?_
        rw [G.out]
        rintro e w1 ⟨rfl, hb1⟩
        go_wp2
        go_ret
        exact ⟨k, rfl, .inr ⟨k, hlt, rfl, G.out, HT.out⟩, hb.trans (hb1.mono hz)⟩
      · have G := Lib.hid (show P ts[k] = false by simpa using g); clear g
        go_wp2_with fail
        refine (HF.out k hlt _ hb).mono ?_
        rw [G.out]
        rintro e w1 ⟨rfl, hb1⟩
        go_wp2
        go_roundw
        case rel =>
          refine ⟨k + 1, by omega, by go_num, fun j hj hjk => ?_, hb.trans (hb1.mono hz)⟩
          rcases Nat.lt_or_eq_of_le (Nat.le_of_lt_succ hjk) with h1 | h1
          · exact HT.out j hj h1
          · subst h1; exact G.out
        case measure => simp [intOf] <;> omega
    · go_wp2
      go_ret
      exact ⟨-1, rfl, .inl ⟨rfl, fun j hj => HT.out j hj (by omega)⟩, hb⟩

set_option maxHeartbeats 400000 in
theorem anyR_any (N : Nat) (P : Rng → Bool) (v : Value) (ts : List Rng) (w : World) (h : Rngs w v ts)
    (hN : ∀ args w, Sem.run Tryz.prog (callFunc N args) w = .ok (.enter N args) w)
    (hF : ∀ k (hk : k < ts.length) (w1 : World), Below w.heap.size w w1 → Calls Tryz.prog N #[.agg #[.int .i64 ts[k].outer, .int .i64 ts[k].inner, .int .i64 ts[k].height]] w1 fun e w2 => e = .returned (.bool (P ts[k])) ∧ Below w1.heap.size w1 w2) :
    Calls Tryz.prog 119 #[v, .func (.func N) #[] #[]] w fun e w' => e = .returned (.bool (ts.any P)) ∧ Below w.heap.size w w' := by
  go_enter Tryz.func119, Tryz.ntmps119
  go_wp2_with fail
  refine (idxR_any N P v ts _ h hN hF).mono ?_
  rintro e w1 ⟨r, rfl, hr, hb⟩
  have HX := Lib.hid hr.any
  clear hr
  go_wp2
  go_ret
  exact ⟨ret_bool HX.out, hb⟩


theorem enters_ring (args : Array Value) (w : World) : Sem.run Tryz.prog (callFunc 120 args) w = .ok (.enter 120 args) w := by
  first | rfl | (simp [callFunc, go_sem]; done) | (go_simp; done)
theorem containsRing_any (b : Bool) (v : Value) (xs : List Rng) (w : World) (h : Rngs w v xs) (hb : b = decide (∀ i, i < xs.length → ringOk (rg xs i))) :
    Calls Tryz.prog 119 #[v, .func (.func 120) #[] #[]] w fun e w' => e = .returned (.bool (!b)) ∧ Below w.heap.size w w' := by
  refine (anyR_any 120 (fun r => !decide (ringOk r)) v xs w h enters_ring (fun k hk w1 _ => badRing_any _ xs[k] w1 rfl)).mono ?_
  rintro e w' ⟨rfl, hb'⟩
  refine ⟨ret_bool ?_, hb'⟩
  rw [hb, Bool.eq_iff_iff, List.any_eq_true]
  simp only [Bool.not_eq_true', decide_eq_false_iff_not]
  constructor
  · rintro ⟨r, hr, h1⟩ h2
    obtain ⟨i, hi, rfl⟩ := List.getElem_of_mem hr
    exact h1 (by rw [← rg_at hi]; exact h2 i hi)
  · intro h1
    apply Classical.byContradiction
    intro h2
    apply h1
    intro i hi
    apply Classical.byContradiction
    intro h3
    exact h2 ⟨xs[i], List.getElem_mem hi, by rw [← rg_at hi]; exact h3⟩
end Go.Proofs.YtenedpboehkmjaaGreat
/- Valid profiles: contract of l05Ok. -/
set_option linter.unusedSimpArgs false
set_option linter.unnecessarySimpa false
set_option linter.unusedVariables false
set_option maxRecDepth 100000
namespace Go.Proofs.YtenedpboehkmjaaGreat
open Go.RowKit

theorem prf_step {xs : List Rng} {k : Nat} (h : ∀ i, i < k → ringAt xs i) (hk : ringAt xs k) : ∀ i, i < k + 1 → ringAt xs i := fun i hi => by
  by_cases e : i = k
  · rw [e]; exact hk
  · exact h i (by omega)
theorem prf_no {x : PrfD} {k : Nat} (hk : k < x.rings.length) (h : ¬ ringAt x.rings k) : ¬ prfOk x := fun hm => h (hm.2.2.1 k hk)
set_option maxHeartbeats 2000000 in
theorem l05Ok_any (r : Bool) (q o : Nat) (x : PrfD) (w : World) {a : Option Addr} {c : Nat} (h : PrfIn w q o x a c) (hn : x.name.size ≤ maxLen) (hr : r = decide (prfOk x)) :
    Calls Tryz.prog 81 #[.pointer (some ⟨q, o, none⟩)] w fun e w' => e = .returned (.bool r) ∧ Q w w' := by
  have HR := Lib.hid hr
  have H := Lib.hid h
  obtain ⟨_, _, e1, hz1, hz2, _⟩ := id h.r
  cases e1
  have hm : x.rings.length ≤ maxLen := by omega
  have c0 := h.c0
  have c1 := h.c1
  have l0 := h.lt
  clear h hr hz1 hz2
  unfold maxLen at hm
  obtain ⟨r1, hr1⟩ : ∃ r1, r1 = decide (NameOk x.name) := ⟨_, rfl⟩
  have HR1 := Lib.hid hr1
  clear hr1
  go_enter Tryz.func81, Tryz.ntmps81
  go_wp2_with fail
  refine (l01Name_any x.name _ hn).mono ?_
  rw [← HR1.out]
  rintro e w1 ⟨rfl, rfl⟩
  cases r1
  · skip
    have HX := Lib.hid (show r = false by rw [HR.out]; exact decide_eq_false (fun h => by have h2 := HR1.out.symm; rw [decide_eq_false_iff_not] at h2; exact h2 h.1))
    go_wp2
    go_ret
    exact ⟨by rw [HX.out]; rfl, Q.refl _⟩
  · by_cases g2 : 1 ≤ x.rings.length
    · have e2 : decide ((x.rings.length : Int) < 1) = false := decide_eq_false (by omega)
      have e2' : decide (x.rings.length < 1) = false := decide_eq_false (by omega)
      by_cases g3 : x.rings.length ≤ 32
      · have e3 : decide (32 < (x.rings.length : Int)) = false := decide_eq_false (by omega)
        have e3' : decide (32 < x.rings.length) = false := decide_eq_false (by omega)
        have G2 := Lib.hid g2
        have G3 := Lib.hid g3
        clear g2
        go_wp2_with fail
        go_loopw [3] (fun i wr => ∃ k : Nat, k ≤ x.rings.length ∧ i = .int .i64 (k : Int) ∧ (∀ i, i < k → ringAt x.rings i) ∧ Q w1 wr) (fun i _ => x.rings.length - (intOf i).toNat)
        case atStart => exact ⟨0, Nat.zero_le _, by go_num, by intro i h; omega, Q.refl _⟩
        case round =>
          obtain ⟨k, hk, rfl, ht, hq⟩ := hrel
          have HT := Lib.hid ht
          have HQ := Lib.hid hq
          replace c0 := (hq.cell _).trans H.out.c0
          replace c1 := (hq.cell _).trans H.out.c1
          have HI := Lib.hid (H.out.mono (hq.below w1.heap.size))
          clear ht hq
          by_cases hlt : k < x.rings.length
          · obtain ⟨b1, o1, rfl, hB, d0, d1, d2⟩ := HI.out.r.at hlt
            have gy := rg_at hlt
            have HY := Lib.hid (show RngIn wr b1 (o1 + k * 3) x.rings[k] from ⟨hB, d0, d1, d2⟩)
            obtain ⟨y, hy⟩ : ∃ y, y = x.rings[k] := ⟨_, rfl⟩
            rw [← hy] at gy HY
            obtain ⟨bc, hbc⟩ : ∃ b, b = decide (ringOk y) := ⟨_, rfl⟩
            have HC := Lib.hid hbc
            have GY := Lib.hid gy
            clear hy hbc gy d0 d1 d2
            cases bc
            · skip
              go_wp2
              go_quiet ((go_at_call 109; exact quiet_q (l05Ring_any _ b1 (o1 + k * 3) y _ (HY.out.mono (Below.drawN _)) HC.out)))
              have HX := Lib.hid (show r = false by rw [HR.out]; exact decide_eq_false (prf_no hlt (fun h => by have h3 := HC.out.symm; rw [decide_eq_false_iff_not] at h3; have := h.1; rw [GY.out] at this; exact h3 this)))
              go_wp2
              go_ret
              exact ⟨by rw [HX.out]; rfl, HQ.out.drewN _⟩
            · by_cases h0 : 0 < k
              · have h0' : decide (0 < (k : Int)) = true := by simpa using h0
                have z1 : ((k : Int) - 1).toNat = k - 1 := by omega
                obtain ⟨_, _, e4, hB, d0, d1, d2⟩ := HI.out.r.at (show k - 1 < x.rings.length by omega)
                cases e4
                have gz := rg_at (show k - 1 < x.rings.length by omega)
                have HZ := Lib.hid (show RngIn wr b1 (o1 + (k - 1) * 3) x.rings[k - 1] from ⟨hB, d0, d1, d2⟩)
                obtain ⟨z, hz⟩ : ∃ z, z = x.rings[k - 1] := ⟨_, rfl⟩
                rw [← hz] at gz HZ
                obtain ⟨bj, hbj⟩ : ∃ b, b = decide (joined z y) := ⟨_, rfl⟩
                have HJ := Lib.hid hbj
                have GZ := Lib.hid gz
                clear hz hbj gz d0 d1 d2
                cases bj
                · skip
                  go_wp2
                  go_quiet (first | (go_at_call 109; exact quiet_q (l05Ring_any _ b1 (o1 + k * 3) y _ (HY.out.mono (Below.drawN _)) HC.out)) | (go_at_call 110; exact quiet_q (l05Joined_any _ b1 (o1 + (k - 1) * 3) b1 (o1 + k * 3) z y _ (HZ.out.mono (Below.drawN _)) (HY.out.mono (Below.drawN _)) HJ.out)))
                  have HX := Lib.hid (show r = false by rw [HR.out]; exact decide_eq_false (prf_no hlt (fun h => by have h3 := HJ.out.symm; rw [decide_eq_false_iff_not] at h3; rcases h.2 with e | e; omega; rw [GY.out, GZ.out] at e; exact h3 e)))
                  go_wp2
                  go_ret
                  exact ⟨by rw [HX.out]; rfl, HQ.out.drewN _⟩
                · have HM := Lib.hid (show ringAt x.rings k from ⟨by rw [GY.out]; exact of_decide_eq_true HC.out.symm, .inr (by rw [GY.out, GZ.out]; exact of_decide_eq_true HJ.out.symm)⟩)
                  go_wp2
                  go_quiet (first | (go_at_call 109; exact quiet_q (l05Ring_any _ b1 (o1 + k * 3) y _ (HY.out.mono (Below.drawN _)) HC.out)) | (go_at_call 110; exact quiet_q (l05Joined_any _ b1 (o1 + (k - 1) * 3) b1 (o1 + k * 3) z y _ (HZ.out.mono (Below.drawN _)) (HY.out.mono (Below.drawN _)) HJ.out)))
                  go_wp2
                  go_roundw
                  case rel => exact ⟨k + 1, by omega, by go_num, prf_step HT.out HM.out, HQ.out.drewN _⟩
                  case measure => simp [intOf]; omega
              · have h0' : decide (0 < (k : Int)) = false := by simpa using h0
                have HM := Lib.hid (show ringAt x.rings k from ⟨by rw [GY.out]; exact of_decide_eq_true HC.out.symm, .inl (by omega)⟩)
                go_wp2
                go_quiet ((go_at_call 109; exact quiet_q (l05Ring_any _ b1 (o1 + k * 3) y _ (HY.out.mono (Below.drawN _)) HC.out)))
                go_wp2
                go_roundw
                case rel => exact ⟨k + 1, by omega, by go_num, prf_step HT.out HM.out, HQ.out.drewN _⟩
                case measure => simp [intOf]; omega
          · have HA := Lib.hid (show ∀ i, i < x.rings.length → ringAt x.rings i from fun i hi => HT.out i (by omega))
            go_wp2_with fail
            refine (l05Height_any q o x _ HI.out (fun i hi => (HA.out i hi).1) g3).mono ?_
            rintro e w2 ⟨rfl, rfl⟩
            obtain ⟨t, ht⟩ : ∃ t, t = hgt x.rings := ⟨_, rfl⟩
            rw [← ht]
            have HTT := Lib.hid ht
            clear ht
            by_cases g5 : t ≤ 300000
            · have e5 : decide (t ≤ 300000) = true := decide_eq_true g5
              have HX := Lib.hid (show r = true by rw [HR.out]; exact decide_eq_true ⟨of_decide_eq_true HR1.out.symm, ⟨G2.out, G3.out⟩, HA.out, by rw [← HTT.out]; exact g5⟩)
              go_wp2
              go_ret
              exact ⟨by rw [HX.out]; rfl, HQ.out⟩
            · have e5 : decide (t ≤ 300000) = false := decide_eq_false g5
              have HX := Lib.hid (show r = false by rw [HR.out]; exact decide_eq_false (fun h => g5 (by rw [HTT.out]; exact h.2.2.2)))
              go_wp2
              go_ret
              exact ⟨by rw [HX.out]; rfl, HQ.out⟩
      · have e3 : decide (32 < (x.rings.length : Int)) = true := decide_eq_true (by omega)
        have e3' : decide (32 < x.rings.length) = true := decide_eq_true (by omega)
        have HX := Lib.hid (show r = false by rw [HR.out]; exact decide_eq_false (fun h => g3 h.2.1.2))
        go_wp2
        go_ret
        exact ⟨by rw [HX.out]; rfl, Q.refl _⟩
    · have e2 : decide ((x.rings.length : Int) < 1) = true := decide_eq_true (by omega)
      have e2' : decide (x.rings.length < 1) = true := decide_eq_true (by omega)
      have HX := Lib.hid (show r = false by rw [HR.out]; exact decide_eq_false (fun h => g2 h.2.1.1))
      go_wp2
      go_ret
      exact ⟨by rw [HX.out]; rfl, Q.refl _⟩
end Go.Proofs.YtenedpboehkmjaaGreat
/- Two rows of the call's own that lie apart, each grown in turn. No program in sight. -/
set_option linter.unusedSimpArgs false
set_option linter.unnecessarySimpa false
set_option linter.unusedVariables false
namespace Go.Proofs.YtenedpboehkmjaaGreat
open Go.RowKit

def Apt (a b : Value) : Prop := a.ownBlock = none ∨ b.ownBlock = none ∨ a.ownBlock ≠ b.ownBlock
theorem Apt.symm {a b : Value} (h : Apt a b) : Apt b a := by
  rcases h with h | h | h
  · exact .inr (.inl h)
  · exact .inl h
  · exact .inr (.inr fun e => h e.symm)
theorem Apt.keep {w w' : World} {base : Nat} {e : TypeId} {size n : Nat} {v o : Value} {cs : List Value} (ha : Apt v o) (h : w.ownsRow base e size o n cs) (hg : w.grownBy w' v.ownBlock) : w'.ownsRow base e size o n cs := by
  refine World.ownsRow.kept h hg ?_
  cases ho : o.ownBlock with
  | none => exact .inl rfl
  | some k =>
    refine .inr ?_
    rcases ha with h | h | h
    · rw [h]; simp
    · rw [ho] at h; cases h
    · rw [ho] at h; exact fun e => h e.symm
theorem Apt.next {v v' o : Value} {H : Nat} (ha : Apt v o) (hv : v'.ownBlock = v.ownBlock ∨ v'.ownBlock = some (H + 1)) (ho : ∀ k, o.ownBlock = some k → k < H) : Apt v' o := by
  rcases hv with h | h
  · rcases ha with g | g | g
    · exact .inl (h.trans g)
    · exact .inr (.inl g)
    · exact .inr (.inr (by rw [h]; exact g))
  · cases hb : o.ownBlock with
    | none => exact .inr (.inl hb)
    | some k =>
      refine .inr (.inr ?_)
      have := ho k hb
      rw [h, hb]
      simp only [ne_eq, Option.some.injEq]
      omega

end Go.Proofs.YtenedpboehkmjaaGreat
