/- FirstBays and FewestBays of both packages. -/
import Derived.Test.YteaijhmgfddjiaaBayQ
import Derived.Test.YteaijhmgfddjiaaKInts
set_option linter.unusedSimpArgs false
set_option linter.unnecessarySimpa false
set_option linter.unusedVariables false
set_option maxRecDepth 100000
namespace Go.Proofs.Yteaijhmgfddjiaa
open Go.RowKit

noncomputable def askB (x0 : List BayD) (x1 : List CasD) (n : Int) : Int := if baysB x0 = true ∧ cassB x1 = true then (if 1 ≤ n ∧ n ≤ 20000 then 0 else 2) else 1
structure AskOk (x0 : List BayD) (x1 : List CasD) (n : Int) : Prop where
  bays : BaysOk x0
  cass : CassOk x1
  low : 1 ≤ n
  high : n ≤ 20000
theorem ask_zeroB {x0 : List BayD} {x1 : List CasD} {n : Int} : askB x0 x1 n = 0 ↔ AskOk x0 x1 n := by
  unfold askB
  constructor
  · intro h
    split at h
    · split at h
      · rename_i h1 h2
        exact ⟨baysB_iff.1 h1.1, cassB_iff.1 h1.2, h2.1, h2.2⟩
      · cases h
    · cases h
  · rintro ⟨h1, h2, h3, h4⟩
    rw [if_pos ⟨baysB_iff.2 h1, cassB_iff.2 h2⟩, if_pos ⟨h3, h4⟩]
noncomputable def fbR (x0 : List BayD) (x1 : List CasD) (n : Int) : Res := runB x0 x1 x0.length x1.length [] n.toNat
noncomputable def fbV (x0 : List BayD) (x1 : List CasD) (n : Int) : List Int := if askB x0 x1 n = 0 ∧ (fbR x0 x1 n).found = true then (fbR x0 x1 n).pl else []
noncomputable def fbC (x0 : List BayD) (x1 : List CasD) (n : Int) : Int := if askB x0 x1 n = 0 then (if (fbR x0 x1 n).found = true then 0 else if (fbR x0 x1 n).spent = true then 5 else 3) else askB x0 x1 n
noncomputable def fwR (x0 : List BayD) (x1 : List CasD) (n : Int) : Res × Nat := fewB x0 x1 (x0.length + 1) 0 n.toNat
noncomputable def fwV (x0 : List BayD) (x1 : List CasD) (n : Int) : List Int := if askB x0 x1 n = 0 ∧ (fwR x0 x1 n).1.found = true then (fwR x0 x1 n).1.pl else []
noncomputable def fwM (x0 : List BayD) (x1 : List CasD) (n : Int) : Int := if askB x0 x1 n = 0 ∧ (fwR x0 x1 n).1.found = true then ((fwR x0 x1 n).2 : Int) else 0
noncomputable def fwC (x0 : List BayD) (x1 : List CasD) (n : Int) : Int := if askB x0 x1 n = 0 then (if (fwR x0 x1 n).1.found = true then 0 else if (fwR x0 x1 n).1.spent = true then 5 else 3) else askB x0 x1 n
section
variable {x0 : List BayD} {x1 : List CasD} {n : Int}
theorem fb_bad (h : ¬ askB x0 x1 n = 0) : fbV x0 x1 n = [] ∧ fbC x0 x1 n = askB x0 x1 n := ⟨if_neg fun g => h g.1, if_neg h⟩
theorem fb_yes (h : askB x0 x1 n = 0) (hf : (fbR x0 x1 n).found = true) : fbV x0 x1 n = (fbR x0 x1 n).pl ∧ fbC x0 x1 n = 0 := ⟨if_pos ⟨h, hf⟩, by unfold fbC; rw [if_pos h, if_pos hf]⟩
theorem fb_no (h : askB x0 x1 n = 0) (hf : (fbR x0 x1 n).found = false) : fbV x0 x1 n = [] ∧ fbC x0 x1 n = if (fbR x0 x1 n).spent = true then 5 else 3 := ⟨if_neg fun g => by rw [hf] at g; exact absurd g.2 (by simp), by unfold fbC; rw [if_pos h, if_neg (by rw [hf]; simp)]⟩
theorem fw_bad (h : ¬ askB x0 x1 n = 0) : fwV x0 x1 n = [] ∧ fwM x0 x1 n = 0 ∧ fwC x0 x1 n = askB x0 x1 n := ⟨if_neg fun g => h g.1, if_neg fun g => h g.1, if_neg h⟩
theorem fw_yes (h : askB x0 x1 n = 0) (hf : (fwR x0 x1 n).1.found = true) : fwV x0 x1 n = (fwR x0 x1 n).1.pl ∧ fwM x0 x1 n = ((fwR x0 x1 n).2 : Int) ∧ fwC x0 x1 n = 0 := ⟨if_pos ⟨h, hf⟩, if_pos ⟨h, hf⟩, by unfold fwC; rw [if_pos h, if_pos hf]⟩
theorem fw_no (h : askB x0 x1 n = 0) (hf : (fwR x0 x1 n).1.found = false) : fwV x0 x1 n = [] ∧ fwM x0 x1 n = 0 ∧ fwC x0 x1 n = if (fwR x0 x1 n).1.spent = true then 5 else 3 := ⟨if_neg fun g => by rw [hf] at g; exact absurd g.2 (by simp), if_neg fun g => by rw [hf] at g; exact absurd g.2 (by simp), by unfold fwC; rw [if_pos h, if_neg (by rw [hf]; simp)]⟩
theorem fbV_len : (fbV x0 x1 n).length ≤ 12 := by
  unfold fbV
  split
  · rename_i h
    have hk := ask_zeroB.1 h.1
    have := (run_ok x0 x1 x0.length x1.length [] n.toNat (by intro x hx; cases hx)).found h.2
    have h2 : (fbR x0 x1 n).pl.length = [].length + x1.length := this.2.1
    rw [h2]; have := hk.cass.len; simp; omega
  · simp
theorem few_len (x0 : List BayD) (x1 : List CasD) : ∀ n m left, (fewB x0 x1 n m left).1.found = true → (fewB x0 x1 n m left).1.pl.length = x1.length
  | 0, m, left, h => by cases h
  | n + 1, m, left, h => by
    cases h1 : (runB x0 x1 m x1.length [] left).found
    · cases h2 : (runB x0 x1 m x1.length [] left).spent
      · rw [few_next h1 h2] at h ⊢
        exact few_len x0 x1 n (m + 1) _ h
      · rw [few_spent h1 h2] at h; cases h
    · rw [few_found h1]
      have := (run_ok x0 x1 m x1.length [] left (by intro x hx; cases hx)).found h1
      simpa using this.2.1
theorem fwV_len : (fwV x0 x1 n).length ≤ 12 := by
  unfold fwV
  split
  · rename_i h
    have hk := ask_zeroB.1 h.1
    have h2 : (fwR x0 x1 n).1.pl.length = x1.length := few_len x0 x1 _ _ _ h.2
    rw [h2]; exact hk.cass.len
  · simp
end
theorem CassOk.mem {x1 : List CasD} (h : CassOk x1) : ∀ x ∈ x1, casOk x := fun x hx => by
  obtain ⟨k, hk, rfl⟩ := List.getElem_of_mem hx
  exact h.ok hk
theorem plIn_nil (nb : Nat) : plIn nb [] := fun x hx => by cases hx
theorem ret_oi {a b : Int} (h : a = b) : Ending.returned (.int .i64 a) = Ending.returned (.int .i64 b) := by rw [h]

set_option maxHeartbeats 1000000 in
theorem l16Ask_any (v0 : Value) (x0 : List BayD) (v1 : Value) (x1 : List CasD) (n : Int) (w : World) (h0 : RdBayDs w v0 x0) (o0 : okBayDs x0) (h1 : RdCasDs w v1 x1) (o1 : okCasDs x1) :
    Calls Try.prog 49 #[v0, v1, .int .i64 n] w fun e w' => e = .returned (.int .i64 (askB x0 x1 n)) ∧ Q w w' := by
  have P0 := l16Bays_any v0 x0 w h0 o0
  obtain ⟨a0, c0, rfl⟩ := h0.form
  obtain ⟨a1, c1, rfl⟩ := h1.form
  obtain ⟨r, hr⟩ : ∃ r, r = askB x0 x1 n := ⟨_, rfl⟩
  rw [← hr]
  unfold askB at hr
  cases hb : baysB x0
  · rw [hb] at P0
    have HR := Lib.hid (show r = 1 by rw [hr, if_neg (by rw [hb]; simp)])
    clear hr hb
    go_enter Try.func49, Try.ntmps49
    go_wp2_with fail
    refine P0.mono ?_
    rintro e w1 ⟨rfl, hq⟩
    go_wp2
    go_ret
    exact ⟨ret_oi HR.out.symm, hq⟩
  · rw [hb] at P0
    cases hc : cassB x1
    · have HR := Lib.hid (show r = 1 by rw [hr, if_neg (by rw [hc]; simp)])
      clear hr hb
      go_enter Try.func49, Try.ntmps49
      go_wp2_with fail
      refine P0.mono ?_
      rintro e w1 ⟨rfl, hq⟩
      go_wp2_with fail
      refine (l16Castings_any _ x1 _ (h1.mono (hq.below _)) o1).mono ?_
      rintro e w2 ⟨rfl, hq2⟩
      rw [hc]
      clear hc
      go_wp2
      go_ret
      exact ⟨ret_oi HR.out.symm, hq.trans hq2⟩
    · have HC := Lib.hid hc
      have HR := Lib.hid (show r = if 1 ≤ n ∧ n ≤ 20000 then 0 else 2 by rw [hr, if_pos ⟨hb, hc⟩])
      clear hr hb hc
      obtain ⟨b, hbv⟩ : ∃ b, b = decide (1 ≤ n ∧ n ≤ 20000) := ⟨_, rfl⟩
      have HB := Lib.hid hbv; clear hbv
      go_enter Try.func49, Try.ntmps49
      go_wp2_with fail
      refine P0.mono ?_
      rintro e w1 ⟨rfl, hq⟩
      go_wp2_with fail
      refine (l16Castings_any _ x1 _ (h1.mono (hq.below _)) o1).mono ?_
      rintro e w2 ⟨rfl, hq2⟩
      rw [HC.out]
      go_wp2_with fail
      refine (l00In_any b n 1 20000 _ HB.out).mono ?_
      rintro e w3 ⟨rfl, rfl⟩
      cases b
      · have HR2 := Lib.hid (show r = 2 by rw [HR.out, if_neg (by have := HB.out; simpa using this.symm)])
        go_wp2
        go_ret
        exact ⟨ret_oi HR2.out.symm, hq.trans hq2⟩
      · have HR2 := Lib.hid (show r = 0 by rw [HR.out, if_pos (by have := HB.out; simpa using this.symm)])
        go_wp2
        go_ret
        exact ⟨ret_oi HR2.out.symm, hq.trans hq2⟩

set_option maxHeartbeats 1000000 in
theorem searched_bad (v0 : Value) (x0 : List BayD) (v1 : Value) (x1 : List CasD) (n : Int) (w : World) (h0 : RdBayDs w v0 x0) (o0 : okBayDs x0) (h1 : RdCasDs w v1 x1) (o1 : okCasDs x1) (h : ¬ askB x0 x1 n = 0) :
    Calls Try.prog 32 #[v0, v1, .int .i64 n] w fun e w' => e = .returned (.tuple #[.pointer none, .int .i64 (askB x0 x1 n)]) ∧ Below w.heap.size w w' := by
  have P0 := ValidBays_any v0 x0 w h0 o0
  obtain ⟨a0, c0, rfl⟩ := h0.form
  obtain ⟨a1, c1, rfl⟩ := h1.form
  obtain ⟨r, hr⟩ : ∃ r, r = askB x0 x1 n := ⟨_, rfl⟩
  rw [← hr] at h ⊢
  unfold askB at hr
  cases hb : baysB x0
  · rw [hb] at P0
    have HR := Lib.hid (show r = 1 by rw [hr, if_neg (by rw [hb]; simp)])
    clear hr hb h
    go_enter Try.func32, Try.ntmps32
    go_wp2_with fail
    refine P0.mono ?_
    rintro e w1 ⟨rfl, hq⟩
    go_wp2
    go_ret2
    exact ⟨by rw [HR.out]; rfl, hq⟩
  · rw [hb] at P0
    cases hc : cassB x1
    · have HR := Lib.hid (show r = 1 by rw [hr, if_neg (by rw [hc]; simp)])
      clear hr hb h
      go_enter Try.func32, Try.ntmps32
      go_wp2_with fail
      refine P0.mono ?_
      rintro e w1 ⟨rfl, hq⟩
      go_wp2_with fail
      refine (ValidCastings_any _ x1 _ (h1.mono hq) o1).mono ?_
      rintro e w2 ⟨rfl, hq2⟩
      rw [hc]
      clear hc
      go_wp2
      go_ret2
      exact ⟨by rw [HR.out]; rfl, hq.trans (hq2.mono hq.size)⟩
    · have HC := Lib.hid hc
      have hn : ¬ (1 ≤ n ∧ n ≤ 20000) := fun g => h (by rw [hr, if_pos ⟨hb, hc⟩, if_pos g])
      have HR := Lib.hid (show r = 2 by rw [hr, if_pos ⟨hb, hc⟩, if_neg hn])
      have HB := Lib.hid (show false = decide (1 ≤ n ∧ n ≤ 20000) from noB hn)
      clear hr hb hc h hn
      go_enter Try.func32, Try.ntmps32
      go_wp2_with fail
      refine P0.mono ?_
      rintro e w1 ⟨rfl, hq⟩
      go_wp2_with fail
      refine (ValidCastings_any _ x1 _ (h1.mono hq) o1).mono ?_
      rintro e w2 ⟨rfl, hq2⟩
      rw [HC.out]
      go_wp2_with fail
      refine (isBudget_any false n _ HB.out).mono ?_
      rintro e w3 ⟨rfl, rfl⟩
      go_wp2
      go_ret2
      exact ⟨by rw [HR.out]; rfl, hq.trans (hq2.mono hq.size)⟩

set_option maxHeartbeats 1000000 in
theorem searched_ok (v0 : Value) (x0 : List BayD) (v1 : Value) (x1 : List CasD) (m : Nat) (w : World) (h0 : RdBayDs w v0 x0) (o0 : okBayDs x0) (h1 : RdCasDs w v1 x1) (o1 : okCasDs x1) (h : AskOk x0 x1 m) :
    Calls Try.prog 32 #[v0, v1, .int .i64 (m : Int)] w fun e w' => ∃ w1 : World, e = .returned (.tuple #[.pointer (some ⟨w1.heap.size, 0, none⟩), .int .i64 0]) ∧ Below w.heap.size w w1 ∧ Plc (fI v0 v1 x0.length) w1 w1.heap.size m false [] w' := by
  have P0 := ValidBays_any v0 x0 w h0 o0
  rw [baysB_iff.2 h.bays] at P0
  obtain ⟨a0, c0, rfl⟩ := h0.form
  obtain ⟨a1, c1, rfl⟩ := h1.form
  have HB := Lib.hid (show true = decide (1 ≤ (m : Int) ∧ (m : Int) ≤ 20000) from yesB ⟨h.low, h.high⟩)
  have HC := Lib.hid (cassB_iff.2 h.cass)
  clear h
  go_enter Try.func32, Try.ntmps32
  go_wp2_with fail
  refine P0.mono ?_
  rintro e w1 ⟨rfl, hq⟩
  go_wp2_with fail
  refine (ValidCastings_any _ x1 _ (h1.mono hq) o1).mono ?_
  rintro e w2 ⟨rfl, hq2⟩
  rw [HC.out]
  go_wp2_with fail
  refine (isBudget_any true (m : Int) _ HB.out).mono ?_
  rintro e w3 ⟨rfl, rfl⟩
  go_wp2
  go_ret2
  refine ⟨w3, rfl, hq.trans (hq2.mono hq.size), none, 0, Box.alloc w3 _ _ _ rfl, owns_nil _ _ _ _, ?_⟩
  (repeat (first | with_reducible exact Below.refl _ _ | with_reducible exact hbw | (with_reducible refine Below.setCell ?_ ?_ _; rotate_left; · first | exact Nat.le_refl _ | omega | (simp; done) | (simp; omega)) | (with_reducible refine Below.alloc ?_ ?_ _; rotate_left; · first | exact Nat.le_refl _ | omega | (simp; done) | (simp; omega)) | with_reducible refine below_drewN ?_ _ | with_reducible refine Below.drew ?_))

set_option maxHeartbeats 1000000 in
theorem implFirstBays_any (v0 : Value) (x0 : List BayD) (v1 : Value) (x1 : List CasD) (n : Int) (w : World) (h0 : RdBayDs w v0 x0) (o0 : okBayDs x0) (_ : szBayDs x0 ≤ 1048576) (h1 : RdCasDs w v1 x1) (o1 : okCasDs x1) (_ : szCasDs x1 ≤ 1048576) (_ : I64 n) :
    Calls Try.prog 8 #[v0, v1, .int .i64 n] w fun e w' => ∃ v, e = .returned (.tuple #[v, .int .i64 (fbC x0 x1 n)]) ∧ OwnInts w.heap.size w'.heap.size w' v (fbV x0 x1 n) ∧ Below w.heap.size w w' := by
  obtain ⟨a0, c0, rfl⟩ := h0.form
  obtain ⟨a1, c1, rfl⟩ := h1.form
  by_cases g : askB x0 x1 n = 0
  · have A := ask_zeroB.1 g
    obtain ⟨m, rfl⟩ : ∃ m : Nat, n = m := ⟨n.toNat, by have := A.low; omega⟩
    have hm : (m : Int) ≤ 20000 := A.high
    have HA := Lib.hid A; have G := Lib.hid g
    clear A g
    go_enter Try.func8, Try.ntmps8
    go_wp2_with fail
    refine (searched_ok _ x0 _ x1 m _ h0 o0 h1 o1 HA.out).mono ?_
    rintro e w2 ⟨w1, rfl, hb1, hP⟩
    go_wp2_with fail
    refine (search_any x0 x1 _ _ x0.length w1.heap.size w1 (h0.mono hb1) (h1.mono hb1) rfl HA.out.cass.mem HA.out.bays.len HA.out.cass.len (by have := HA.out.bays.len; omega) x1.length [] m _ (by simp) (plIn_nil _) (by omega) hP).mono ?_
    rintro e w3 ⟨rfl, hP3⟩
    obtain ⟨R, hR⟩ : ∃ R, R = fbR x0 x1 (m : Int) := ⟨_, rfl⟩
    have hR' : runB x0 x1 x0.length x1.length [] m = R := hR.symm
    rw [hR'] at hP3 ⊢
    have HR := Lib.hid hR; clear hR hR' hP
    obtain ⟨a, cap, hB, hr, hbw⟩ := id hP3
    have hbw' := hb1.trans (hbw.mono hb1.size)
    cases hf : R.found
    · have E := Lib.hid (fb_no G.out (by rw [← HR.out]; exact hf))
      clear hB hr hbw
      go_wp2_with fail
      refine (missing_any _ _ _ _ _ _ _ _ _ hP3).mono ?_
      rintro e w4 ⟨rfl, rfl⟩
      obtain ⟨u, hu⟩ : ∃ u : Int, u = if R.spent = true then 5 else 3 := ⟨_, rfl⟩
      rw [← hu]
      have HU := Lib.hid hu; clear hu hP3
      go_wp2
      go_ret2
      exact ⟨_, by rw [E.out.2, ← HR.out, ← HU.out]; rfl, by rw [E.out.1]; exact OwnInts.nil _ _ _, hbw'⟩
    · have E := Lib.hid (fb_yes G.out (by rw [← HR.out]; exact hf))
      have c5 := hB.at' 5 _ rfl
      have l0 := hB.lt
      clear hB hP3
      go_wp2
      go_ret2
      exact ⟨_, by rw [E.out.2]; rfl, by rw [E.out.1, ← HR.out]; exact OwnInts.wide (OwnInts.mk' (owns_base hr (Nat.le_refl _))) (by have := hb1.size; omega) (Nat.le_refl _), hbw'⟩
  · have E := Lib.hid (fb_bad g)
    have G := Lib.hid g
    clear g
    obtain ⟨r, hr⟩ : ∃ r, r = askB x0 x1 n := ⟨_, rfl⟩
    have hr0 : ¬ r = 0 := by rw [hr]; exact G.out
    have d0 : (r != 0) = true := by simpa using hr0
    have HR := Lib.hid hr; clear hr
    go_enter Try.func8, Try.ntmps8
    go_wp2_with fail
    refine (searched_bad _ x0 _ x1 n _ h0 o0 h1 o1 G.out).mono ?_
    rintro e w2 ⟨rfl, hb1⟩
    rw [← HR.out]
    go_wp2
    go_ret2
    exact ⟨_, by rw [E.out.2, ← HR.out]; rfl, by rw [E.out.1]; exact OwnInts.nil _ _ _, hb1⟩


set_option maxHeartbeats 1000000 in
theorem specFirstBays_any (v0 : Value) (x0 : List BayD) (v1 : Value) (x1 : List CasD) (n : Int) (w : World) (h0 : RdBayDs w v0 x0) (o0 : okBayDs x0) (_ : szBayDs x0 ≤ 1048576) (h1 : RdCasDs w v1 x1) (o1 : okCasDs x1) (_ : szCasDs x1 ≤ 1048576) (_ : I64 n) :
    Calls Try.prog 17 #[v0, v1, .int .i64 n] w fun e w' => ∃ v, e = .returned (.tuple #[v, .int .i64 (fbC x0 x1 n)]) ∧ OwnInts w.heap.size w'.heap.size w' v (fbV x0 x1 n) ∧ Below w.heap.size w w' := by
  obtain ⟨a0, c0, rfl⟩ := h0.form
  obtain ⟨a1, c1, rfl⟩ := h1.form
  by_cases g : askB x0 x1 n = 0
  · have A := ask_zeroB.1 g
    obtain ⟨m, rfl⟩ : ∃ m : Nat, n = m := ⟨n.toNat, by have := A.low; omega⟩
    have hm : (m : Int) ≤ 20000 := A.high
    have HA := Lib.hid A; have G := Lib.hid g
    clear A g
    go_enter Try.func17, Try.ntmps17
    go_wp2_with fail
    refine (l16Ask_any _ x0 _ x1 m _ h0 o0 h1 o1).mono ?_
    rintro e w1 ⟨rfl, hq⟩
    have hb1 := hq.below w.heap.size
    rw [G.out]
    go_wp2_with fail
    have hP : Plc (fS (.slice a0 x0.length c0) (.slice a1 x1.length c1) m 8) w1 w1.heap.size m false [] (w1.alloc (.cells #[.slice a0 x0.length c0, .slice a1 x1.length c1, .slice none 0 0, .int .i64 8, .int .i64 0, .int .i64 (m : Int), .bool false] 89)) :=
      ⟨none, 0, (by have := Box.alloc w1 [.slice a0 x0.length c0, .slice a1 x1.length c1, .slice none 0 0, .int .i64 8, .int .i64 0, .int .i64 (m : Int), .bool false] 89 _ rfl; simpa [fS] using this), owns_nil _ _ _ _, by (repeat (first | with_reducible exact Below.refl _ _ | with_reducible exact hbw | (with_reducible refine Below.setCell ?_ ?_ _; rotate_left; · first | exact Nat.le_refl _ | omega | (simp; done) | (simp; omega)) | (with_reducible refine Below.alloc ?_ ?_ _; rotate_left; · first | exact Nat.le_refl _ | omega | (simp; done) | (simp; omega)) | with_reducible refine below_drewN ?_ _ | with_reducible refine Below.drew ?_))⟩
    refine (run_any x0 x1 _ _ 8 w1.heap.size m w1 (h0.mono hb1) (h1.mono hb1) rfl HA.out.cass.mem HA.out.bays.len HA.out.cass.len (by omega) (by omega) x1.length [] m _ (by simp) (plIn_nil _) (Nat.le_refl _) hP).mono ?_
    rintro e w3 ⟨rfl, hP3⟩
    rw [run_same x0 x1 HA.out.bays.len x1.length [] m (plIn_nil _)] at hP3 ⊢
    obtain ⟨R, hR⟩ : ∃ R, R = fbR x0 x1 (m : Int) := ⟨_, rfl⟩
    have hR' : runB x0 x1 x0.length x1.length [] m = R := hR.symm
    rw [hR'] at hP3 ⊢
    have HR := Lib.hid hR; clear hR hR' hP
    obtain ⟨a, cap, hB, hr, hbw⟩ := hP3
    have hbw' := hb1.trans (hbw.mono hb1.size)
    have c2 := hB.at' 2 _ rfl
    have c6 := hB.at' 6 _ rfl
    have l0 := hB.lt
    clear hB hbw
    cases hf : R.found
    · have E := Lib.hid (fb_no G.out (by rw [← HR.out]; exact hf))
      cases hs : R.spent
      · have E2 := Lib.hid (show fbC x0 x1 (m : Int) = 3 by rw [E.out.2, ← HR.out, hs]; rfl)
        rw [hs] at c6
        clear hs hr
        go_wp2
        go_ret2
        exact ⟨_, by rw [E2.out]; rfl, by rw [E.out.1]; exact OwnInts.nil _ _ _, hbw'⟩
      · have E2 := Lib.hid (show fbC x0 x1 (m : Int) = 5 by rw [E.out.2, ← HR.out, hs]; rfl)
        rw [hs] at c6
        clear hs hr
        go_wp2
        go_ret2
        exact ⟨_, by rw [E2.out]; rfl, by rw [E.out.1]; exact OwnInts.nil _ _ _, hbw'⟩
    · have E := Lib.hid (fb_yes G.out (by rw [← HR.out]; exact hf))
      have hpl : R.pl.length ≤ 12 := by
        have := fbV_len (x0 := x0) (x1 := x1) (n := (m : Int))
        rw [E.out.1, ← HR.out] at this; exact this
      have HI := Lib.hid (show Ints w3 (.slice a R.pl.length cap) R.pl from Sl.of_owns hr)
      clear hr
      go_wp2_with fail
      refine (l00Own_any _ R.pl _ HI.out (by omega)).mono ?_
      rintro e w4 ⟨v4, rfl, ho4, hb4⟩
      obtain ⟨a4, c4, rfl⟩ := ho4.form
      have HO := Lib.hid ho4; have hbw4 := hbw'.trans (hb4.mono hbw'.size)
      have hz3 := hbw'.size
      clear ho4 hb4 c2 c6 l0
      go_wp2
      go_ret2
      exact ⟨_, by rw [E.out.2]; rfl, by rw [E.out.1, ← HR.out]; exact OwnInts.wide HO.out (by omega) (Nat.le_refl _), hbw4⟩
  · have E := Lib.hid (fb_bad g)
    have G := Lib.hid g
    clear g
    obtain ⟨r, hr⟩ : ∃ r, r = askB x0 x1 n := ⟨_, rfl⟩
    have hr0 : ¬ r = 0 := by rw [hr]; exact G.out
    have d0 : (r != 0) = true := by simpa using hr0
    have HR := Lib.hid hr; clear hr
    go_enter Try.func17, Try.ntmps17
    go_wp2_with fail
    refine (l16Ask_any _ x0 _ x1 n _ h0 o0 h1 o1).mono ?_
    rintro e w1 ⟨rfl, hq⟩
    rw [← HR.out]
    go_wp2
    go_ret2
    exact ⟨_, by rw [E.out.2, ← HR.out]; rfl, by rw [E.out.1]; exact OwnInts.nil _ _ _, hq.below _⟩

end Go.Proofs.Yteaijhmgfddjiaa
