import Derived.Test.YtenedpboehkmjaaGreatSpZ11
/- Deviations of both packages: how far the partials of a sound are from those of a goal. -/
set_option linter.unusedSimpArgs false
set_option linter.unnecessarySimpa false
set_option linter.unusedVariables false
set_option maxRecDepth 100000
namespace Go.Proofs.YtenedpboehkmjaaGreat
open Go.RowKit

def absI (x : Int) : Int := if x < 0 then -x else x
def greatF (m : Int) : List Int → Int
  | [] => m
  | x :: xs => greatF (if m < absI x then absI x else m) xs
def great (xs : List Int) : Int := greatF 0 xs
theorem greatF_ge : ∀ (xs : List Int) (m : Int), m ≤ greatF m xs ∧ ∀ x ∈ xs, absI x ≤ greatF m xs
  | [], m => ⟨Int.le_refl _, fun x hx => by cases hx⟩
  | y :: xs, m => by
    unfold greatF
    by_cases g : m < absI y
    · rw [if_pos g]
      obtain ⟨h1, h2⟩ := greatF_ge xs (absI y)
      refine ⟨by omega, fun x hx => ?_⟩
      rcases List.mem_cons.1 hx with rfl | hx
      · exact h1
      · exact h2 x hx
    · rw [if_neg g]
      obtain ⟨h1, h2⟩ := greatF_ge xs m
      refine ⟨h1, fun x hx => ?_⟩
      rcases List.mem_cons.1 hx with rfl | hx
      · omega
      · exact h2 x hx
theorem greatF_in : ∀ (xs : List Int) (m : Int), greatF m xs = m ∨ ∃ x ∈ xs, greatF m xs = absI x
  | [], m => .inl rfl
  | y :: xs, m => by
    unfold greatF
    by_cases g : m < absI y
    · simp only [g, if_true]
      rcases greatF_in xs (absI y) with h | ⟨x, hx, h⟩
      · exact .inr ⟨y, List.mem_cons_self .., h⟩
      · exact .inr ⟨x, List.mem_cons_of_mem _ hx, h⟩
    · simp only [g, if_false]
      rcases greatF_in xs m with h | ⟨x, hx, h⟩
      · exact .inl h
      · exact .inr ⟨x, List.mem_cons_of_mem _ hx, h⟩
theorem absI_nn (x : Int) : 0 ≤ absI x := by unfold absI; split <;> omega
theorem great_eq {xs : List Int} {j : Nat} (hj : j < xs.length) (h : ∀ k (hk : k < xs.length), absI xs[k] ≤ absI xs[j]) : absI xs[j] = great xs := by
  obtain ⟨h1, h2⟩ := greatF_ge xs 0
  have h3 := h2 _ (List.getElem_mem hj)
  refine Int.le_antisymm h3 ?_
  rcases greatF_in xs 0 with e | ⟨x, hx, e⟩
  · unfold great; rw [e]; exact absI_nn _
  · obtain ⟨k, hk, rfl⟩ := List.getElem_of_mem hx
    unfold great; rw [e]; exact h k hk
theorem great_take {xs : List Int} {k : Nat} (h : k < xs.length) (m : Int) : greatF m (xs.take (k + 1)) = (if greatF m (xs.take k) < absI xs[k] then absI xs[k] else greatF m (xs.take k)) := by
  have key : ∀ (l : List Int) (y m : Int), greatF m (l ++ [y]) = (if greatF m l < absI y then absI y else greatF m l) := by
    intro l
    induction l with
    | nil => intro y m; rfl
    | cons a l ih => intro y m; show greatF _ (l ++ [y]) = _; rw [ih]; rfl
  rw [List.take_succ_eq_append_getElem h, key]
def smD (x : Int) : Prop := -1000000 ≤ x ∧ x ≤ 1000000

theorem absD_any (o n : Int) (w : World) (h : smD n) (ho : o = absI n) : Calls Tryz.prog 98 #[.int .i64 n] w fun e w' => e = .returned (.int .i64 o) ∧ w' = w := by
  obtain ⟨h0, h1⟩ := h
  have w1 : IntKind.i64.wrap (-n) = -n := IntWalk.i64_in _ (by omega)
  by_cases g : n < 0
  · have HO := Lib.hid (show o = -n by rw [ho]; exact if_pos g)
    clear ho
    go_enter Tryz.func98, Tryz.ntmps98
    go_wp2
    go_ret
    exact ⟨by rw [HO.out]; rfl, rfl⟩
  · have HO := Lib.hid (show o = n by rw [ho]; exact if_neg g)
    clear ho
    go_enter Tryz.func98, Tryz.ntmps98
    go_wp2
    go_ret
    exact ⟨by rw [HO.out]; rfl, rfl⟩
set_option maxHeartbeats 1000000 in
theorem worst_any (v : Value) (xs : List Int) (w : World) (h : Ints w v xs) (hs : ∀ x ∈ xs, smD x) (hl : 0 < xs.length) :
    Calls Tryz.prog 99 #[v] w fun e w' => ∃ (j : Nat), e = .returned (.int .i64 (j : Int)) ∧ j < xs.length ∧ (∀ k, absI (xs.getD k 0) ≤ absI (xs.getD j 0) ∨ xs.length ≤ k) ∧ Q w w' := by
  obtain ⟨a, ca, rfl, h1, h2, _⟩ := id h
  have hm : xs.length ≤ maxLen := by omega
  unfold maxLen at hm
  have HS := Lib.hid hs
  clear h1 h2 hs
  go_enter Tryz.func99, Tryz.ntmps99
  go_wp2_with fail
  go_loopw [3, 8] (fun av kv wr => ∃ (j k n : Nat), av = .int .i64 (j : Int) ∧ kv = .int .i64 (k : Int) ∧ j < xs.length ∧ k ≤ xs.length ∧ (∀ i, absI (xs.getD i 0) ≤ absI (xs.getD j 0) ∨ k ≤ i) ∧ wr = w.drewN n) (fun _ kv _ => xs.length - (intOf kv).toNat)
  case atStart => exact ⟨0, 0, 0, rfl, by go_num, hl, Nat.zero_le _, fun i => .inr (Nat.zero_le _), rfl⟩
  case round =>
    obtain ⟨j, k, n, rfl, rfl, hj, hk, hall, rfl⟩ := hrel
    have HA := Lib.hid hall; clear hall
    by_cases hlt : k < xs.length
    · obtain ⟨b1, o1, rfl, cp⟩ := h.cells (by simp; omega)
      have p0 : w.cell? ⟨b1, o1 + k, none⟩ = some (.int .i64 xs[k]) := cp k _ (by simp [hlt])
      have p1 : w.cell? ⟨b1, o1 + j, none⟩ = some (.int .i64 xs[j]) := cp j _ (by simp [hj])
      clear cp
      have s0 := Lib.hid (HS.out _ (List.getElem_mem hlt))
      have s1 := Lib.hid (HS.out _ (List.getElem_mem hj))
      have gk : xs.getD k 0 = xs[k] := by rw [List.getD_eq_getElem?_getD, List.getElem?_eq_getElem hlt]; rfl
      have gj : xs.getD j 0 = xs[j] := by rw [List.getD_eq_getElem?_getD, List.getElem?_eq_getElem hj]; rfl
      obtain ⟨x, hx⟩ : ∃ x, x = xs[k] := ⟨_, rfl⟩
      obtain ⟨y, hy⟩ : ∃ y, y = xs[j] := ⟨_, rfl⟩
      rw [← hx] at p0 s0 gk
      rw [← hy] at p1 s1 gj
      obtain ⟨ax, hax⟩ : ∃ ax, ax = absI x := ⟨_, rfl⟩
      obtain ⟨ay, hay⟩ : ∃ ay, ay = absI y := ⟨_, rfl⟩
      have AX := Lib.hid hax; have AY := Lib.hid hay
      have GK := Lib.hid gk; have GJ := Lib.hid gj
      clear hx hy hax hay gk gj
      obtain ⟨wo, hwo⟩ : ∃ wo, wo = w.drewN n := ⟨_, rfl⟩
      rw [← hwo]
      have p0' : wo.cell? ⟨b1, o1 + k, none⟩ = some (.int .i64 x) := by rw [hwo]; simpa using p0
      have p1' : wo.cell? ⟨b1, o1 + j, none⟩ = some (.int .i64 y) := by rw [hwo]; simpa using p1
      have HWO := Lib.hid hwo
      clear hwo p0 p1
      by_cases g : ay < ax
      · have dg : decide (ay < ax) = true := decide_eq_true g
        go_wp2_with fail
        go_quiet ((go_at_call 98; first | with_reducible exact Calls.quiet_of_same (absD_any ax x _ s0.out AX.out) | with_reducible exact Calls.quiet_of_same (absD_any ay y _ s1.out AY.out)))
        go_wp2
        go_roundw
        case rel => exact ⟨k, k + 1, n + nq, rfl, by go_num, hlt, by omega, (fun i => by
          rcases HA.out i with h | h
          · left; rw [GK.out]; rw [GJ.out, ← AY.out] at h; rw [← AX.out]; omega
          · by_cases e : i = k
            · subst e; exact .inl (Int.le_refl _)
            · exact .inr (by omega)), by rw [HWO.out, World.drewN_drewN]⟩
        case measure => simp [intOf]; omega
      · have dg : decide (ay < ax) = false := decide_eq_false g
        go_wp2_with fail
        go_quiet ((go_at_call 98; first | with_reducible exact Calls.quiet_of_same (absD_any ax x _ s0.out AX.out) | with_reducible exact Calls.quiet_of_same (absD_any ay y _ s1.out AY.out)))
        go_wp2
        go_roundw
        case rel => exact ⟨j, k + 1, n + nq, rfl, by go_num, hj, by omega, (fun i => by
          rcases HA.out i with h | h
          · exact .inl h
          · by_cases e : i = k
            · subst e; left; rw [GK.out, GJ.out, ← AX.out, ← AY.out]; omega
            · exact .inr (by omega)), by rw [HWO.out, World.drewN_drewN]⟩
        case measure => simp [intOf]; omega
    · obtain rfl : k = xs.length := by omega
      go_wp2
      go_ret
      exact ⟨j, rfl, hj, HA.out, n, rfl⟩
theorem greatest_any (o : Int) (v : Value) (xs : List Int) (w : World) (h : Ints w v xs) (hs : ∀ x ∈ xs, smD x) (hl : 0 < xs.length) (ho : o = great xs) :
    Calls Tryz.prog 74 #[v] w fun e w' => e = .returned (.int .i64 o) ∧ Q w w' := by
  obtain ⟨a, ca, rfl, h1, h2, _⟩ := id h
  have HS := Lib.hid hs; have HO := Lib.hid ho
  clear hs ho h1 h2
  go_enter Tryz.func74, Tryz.ntmps74
  go_wp2_with fail
  refine (worst_any _ xs _ h HS.out hl).mono ?_
  rintro e w1 ⟨j, rfl, hj, hall, hq⟩
  have hE := great_eq hj (fun k hk => by
    rcases hall k with h | h
    · rw [List.getD_eq_getElem?_getD, List.getElem?_eq_getElem hk, List.getD_eq_getElem?_getD, List.getElem?_eq_getElem hj] at h; exact h
    · omega)
  obtain ⟨b1, o1, rfl, cp⟩ := (Ints.q h hq).cells (by simp; omega)
  have p1 : w1.cell? ⟨b1, o1 + j, none⟩ = some (.int .i64 xs[j]) := cp j _ (by simp [hj])
  have s1 := Lib.hid (HS.out _ (List.getElem_mem hj))
  have HE := Lib.hid (show o = absI xs[j] by rw [HO.out, hE])
  clear cp hall hE
  go_wp2_with fail
  refine (absD_any o xs[j] _ s1.out HE.out).mono ?_
  rintro e w2 ⟨rfl, rfl⟩
  go_wp2
  go_ret
  exact ⟨rfl, hq⟩

set_option maxHeartbeats 1000000 in
theorem l00Max_any (o a b : Int) (w : World) (ho : o = if b < a then a else b) : Calls Tryz.prog 84 #[.int .i64 a, .int .i64 b] w fun e w' => e = .returned (.int .i64 o) ∧ w' = w := by
  by_cases g : b < a
  · have HO := Lib.hid (show o = a by rw [ho]; exact if_pos g)
    clear ho
    go_enter Tryz.func84, Tryz.ntmps84
    go_wp2
    go_ret
    exact ⟨by rw [HO.out]; rfl, rfl⟩
  · have HO := Lib.hid (show o = b by rw [ho]; exact if_neg g)
    clear ho
    go_enter Tryz.func84, Tryz.ntmps84
    go_wp2
    go_ret
    exact ⟨by rw [HO.out]; rfl, rfl⟩
set_option maxHeartbeats 1000000 in
theorem l10Greatest_any (v : Value) (xs : List Int) (w : World) (h : Ints w v xs) (hs : ∀ x ∈ xs, smD x) :
    Calls Tryz.prog 63 #[v] w fun e w' => e = .returned (.int .i64 (great xs)) ∧ Q w w' := by
  obtain ⟨a, ca, rfl, h1, h2, _⟩ := id h
  have hm : xs.length ≤ maxLen := by omega
  unfold maxLen at hm
  have HS := Lib.hid hs
  clear h1 h2 hs
  go_enter Tryz.func63, Tryz.ntmps63
  go_wp2_with fail
  go_loopw [3, 4] (fun mv kv wr => ∃ (k n : Nat) (m : Int), mv = .int .i64 m ∧ kv = .int .i64 (k : Int) ∧ k ≤ xs.length ∧ m = greatF 0 (xs.take k) ∧ wr = w.drewN n) (fun _ kv _ => xs.length - (intOf kv).toNat)
  case atStart => exact ⟨0, 0, 0, rfl, by go_num, Nat.zero_le _, rfl, rfl⟩
  case round =>
    obtain ⟨k, n, m, rfl, rfl, hk, hm', rfl⟩ := hrel
    have HM := Lib.hid hm'; clear hm'
    by_cases hlt : k < xs.length
    · obtain ⟨b1, o1, rfl, cp⟩ := h.cells (by simp; omega)
      have p0 : w.cell? ⟨b1, o1 + k, none⟩ = some (.int .i64 xs[k]) := cp k _ (by simp [hlt])
      clear cp
      have s0 := HS.out _ (List.getElem_mem hlt)
      have HT := Lib.hid (great_take hlt 0)
      obtain ⟨x, hx⟩ : ∃ x, x = xs[k] := ⟨_, rfl⟩
      rw [← hx] at p0 s0 HT
      clear hx
      obtain ⟨s1, s2⟩ := s0
      have wn : IntKind.i64.wrap (-x) = -x := IntWalk.i64_in _ (by omega)
      have AX := Lib.hid (show absI x = if -x < x then x else -x by unfold absI; by_cases g : x < 0 <;> by_cases g2 : -x < x <;> simp [g, g2] <;> omega)
      obtain ⟨ax, hax⟩ : ∃ ax, ax = absI x := ⟨_, rfl⟩
      have AX1 := Lib.hid (show ax = if -x < x then x else -x by rw [hax]; exact AX.out)
      obtain ⟨r, hr⟩ : ∃ r, r = if ax < m then m else ax := ⟨_, rfl⟩
      have RR := Lib.hid hr
      have HN := Lib.hid (show r = greatF 0 (xs.take (k + 1)) by
        rw [HT.out, ← HM.out, ← hax, hr]
        by_cases g : m < ax
        · rw [if_neg (by omega), if_pos g]
        · rw [if_neg g]
          by_cases g2 : ax < m
          · rw [if_pos g2]
          · rw [if_neg g2]; omega)
      clear hax hr
      obtain ⟨wo, hwo⟩ : ∃ wo, wo = w.drewN n := ⟨_, rfl⟩
      rw [← hwo]
      have p0' : wo.cell? ⟨b1, o1 + k, none⟩ = some (.int .i64 x) := by rw [hwo]; simpa using p0
      have HWO := Lib.hid hwo
      clear hwo p0
      go_wp2_with fail
      go_quiet ((go_at_call 84; first | with_reducible exact Calls.quiet_of_same (l00Max_any ax x (-x) _ AX1.out) | with_reducible exact Calls.quiet_of_same (l00Max_any r m ax _ RR.out)))
      go_wp2
      go_roundw
      case rel => exact ⟨k + 1, n + nq, r, rfl, by go_num, by omega, HN.out, by rw [HWO.out, World.drewN_drewN]⟩
      case measure => simp [intOf]; omega
    · obtain rfl : k = xs.length := by omega
      have HE := Lib.hid (show m = great xs by rw [HM.out, List.take_length]; rfl)
      go_wp2
      go_ret
      exact ⟨by rw [← HE.out]; rfl, n, rfl⟩

end Go.Proofs.YtenedpboehkmjaaGreat
/- Deviations of both packages, second part: sounds of partials, deviations from a goal, partials that are too low, goals. -/
set_option linter.unusedSimpArgs false
set_option linter.unnecessarySimpa false
set_option linter.unusedVariables false
set_option maxRecDepth 100000
namespace Go.Proofs.YtenedpboehkmjaaGreat
open Go.RowKit

theorem centV_bd {f g : Int} (hf : hzOk f) (hg : hzOk g) : smD (centV f g) := by
  obtain ⟨f0, f1⟩ := hf
  obtain ⟨g0, g1⟩ := hg
  have h1 := logV_bd (n := f.toNat) (by omega) (by omega)
  have h2 := logV_bd (n := g.toNat) (by omega) (by omega)
  unfold smD centV; omega
def devs (t s : SndD) : List Int := [centV t.a s.a, centV t.b s.b, centV t.c s.c, centV t.d s.d, centV t.e s.e]
theorem devs_sm {t s : SndD} (ht : ∀ x ∈ t.list, hzOk x) (hs : ∀ x ∈ s.list, hzOk x) : ∀ x ∈ devs t s, smD x := by
  simp only [SndD.list, List.mem_cons, List.not_mem_nil, or_false, forall_eq_or_imp, forall_eq] at ht hs
  obtain ⟨t0, t1, t2, t3, t4⟩ := ht
  obtain ⟨s0, s1, s2, s3, s4⟩ := hs
  intro x hx
  simp only [devs, List.mem_cons, List.not_mem_nil, or_false] at hx
  rcases hx with rfl | rfl | rfl | rfl | rfl
  · exact centV_bd t0 s0
  · exact centV_bd t1 s1
  · exact centV_bd t2 s2
  · exact centV_bd t3 s3
  · exact centV_bd t4 s4
theorem devs_at {t s : SndD} {k : Nat} (h : k < 5) : (devs t s).take (k + 1) = (devs t s).take k ++ [centV (t.list.getD k 0) (s.list.getD k 0)] := by
  match k, h with
  | 0, _ => rfl
  | 1, _ => rfl
  | 2, _ => rfl
  | 3, _ => rfl
  | 4, _ => rfl
theorem list_at {s : SndD} {k : Nat} (h : k < 5) : s.list.getD k 0 ∈ s.list ∧ (s.list.map (Value.int .i64))[k]? = some (.int .i64 (s.list.getD k 0)) := by
  match k, h with
  | 0, _ => exact ⟨by simp [SndD.list], rfl⟩
  | 1, _ => exact ⟨by simp [SndD.list], rfl⟩
  | 2, _ => exact ⟨by simp [SndD.list], rfl⟩
  | 3, _ => exact ⟨by simp [SndD.list], rfl⟩
  | 4, _ => exact ⟨by simp [SndD.list], rfl⟩

theorem grown_cellS {a w : World} {g : Nat} (h : a.grownBy w (some g)) (o : Nat) (u : Value) : a.grownBy (w.setCell ⟨g, o, none⟩ u) (some g) :=
  ⟨h.os, h.tape, h.output, by have := h.size; simpa [World.setCell] using this, fun k hk hne => (Below.heap_setCell _ _ _ _ (by intro e; apply hne; simp only at e; rw [e])).trans (h.block k hk hne)⟩
theorem grown_drewS {a w : World} {r : Option Nat} (h : a.grownBy w r) : a.grownBy w.drew r := ⟨h.os, h.tape, h.output, h.size, h.block⟩
theorem grown_selfS (w : World) (r : Option Nat) : w.grownBy w r := ⟨rfl, rfl, rfl, Nat.le_refl _, fun _ _ _ => rfl⟩
theorem grown_five (w : World) (q : Nat) (a b c d e : Value) : w.grownBy (((((w.setCell ⟨q, 0, none⟩ a).setCell ⟨q, 1, none⟩ b).setCell ⟨q, 2, none⟩ c).setCell ⟨q, 3, none⟩ d).setCell ⟨q, 4, none⟩ e).drew (some q) :=
  grown_drewS (grown_cellS (grown_cellS (grown_cellS (grown_cellS (grown_cellS (grown_selfS w (some q)) 0 a) 1 b) 2 c) 3 d) 4 e)

set_option maxHeartbeats 1000000 in
theorem soundOf_any (v : Value) (s : SndD) (w : World) (h : Ints w v s.list) :
    Calls Tryz.prog 97 #[v] w fun e w' => e = .returned (.agg #[.int .i64 s.a, .int .i64 s.b, .int .i64 s.c, .int .i64 s.d, .int .i64 s.e]) ∧ Below w.heap.size w w' := by
  obtain ⟨a, ca, rfl, _⟩ := id h
  obtain ⟨b, o, rfl, cp⟩ := h.cells (by simp [SndD.list])
  have x0 := cp 0 _ rfl
  have x1 := cp 1 _ rfl
  have x2 := cp 2 _ rfl
  have x3 := cp 3 _ rfl
  have x4 := cp 4 _ rfl
  rw [Nat.add_zero] at x0
  have lb := World.block_lt_of_cell? w _ x0
  simp only at lb
  have h5 : s.list.length = 5 := rfl
  rw [h5]
  have ne : ¬ b = w.heap.size := by omega
  have hbA := belowA w (Obj.cells #[.int .i64 0, .int .i64 0, .int .i64 0, .int .i64 0, .int .i64 0] 44)
  obtain ⟨W, hW⟩ : ∃ W, W = w.alloc (.cells #[.int .i64 0, .int .i64 0, .int .i64 0, .int .i64 0, .int .i64 0] 44) := ⟨_, rfl⟩
  have hWz : W.heap.size = w.heap.size + 1 := by rw [hW]; simp
  have k0 := cellB hbA x0
  have k1 := cellB hbA x1
  have k2 := cellB hbA x2
  have k3 := cellB hbA x3
  have k4 := cellB hbA x4
  rw [← hW] at k0 k1 k2 k3 k4
  have HW := Lib.hid hW
  have B0 := Box.alloc w [.int .i64 0, .int .i64 0, .int .i64 0, .int .i64 0, .int .i64 0] 44 w.heap.size rfl
  rw [← hW] at B0
  have r0 := B0.at' 0 _ rfl
  have r1 := B0.at' 1 _ rfl
  have r2 := B0.at' 2 _ rfl
  have r3 := B0.at' 3 _ rfl
  have r4 := B0.at' 4 _ rfl
  have f0 := B0.fr 0
  have f1 := B0.fr 1
  have f2 := B0.fr 2
  have f3 := B0.fr 3
  have f4 := B0.fr 4
  have l0 := B0.lt
  have s1 : (1 : Int) < 5 := by omega
  clear cp x0 x1 x2 x3 x4
  go_enter Tryz.func97, Tryz.ntmps97
  go_wp2_with fail
  rw [← hW]
  clear hW
  refine wp_region_ord [(0, true), (1, true), (2, true), (3, true), (4, true), (5, true), (6, true), (7, true), (8, true), (9, true), (10, true), (11, true), (12, true), (13, true), (14, true), (15, true), (16, false)] (some w.heap.size) (by kernel_rfl) (by kernel_rfl) ?_
  (repeat (with_reducible refine wpOrd_soft (fun K hK => ?_); simp only [List.getElem?_toArray, List.getElem?_cons_zero, List.getElem?_cons_succ]; first | (go_simp; refine hK _ ?_) | (simp only [undef]; go_simp; refine hK _ ?_); clear hK K))
  (with_reducible refine wpOrd_hard ?_; simp only [List.getElem?_toArray, List.getElem?_cons_zero, List.getElem?_cons_succ])
  go_wp2_with fail
  refine ⟨grown_five _ _ _ _ _ _ _, ?_⟩
  (with_reducible refine wpOrd_nil ?_); refine NoPanic.normal ?_
  have B5 := ((((B0.set (.int .i64 s.a) (j := 0) (by simp)).set (.int .i64 s.b) (j := 1) (by simp)).set (.int .i64 s.c) (j := 2) (by simp)).set (.int .i64 s.d) (j := 3) (by simp)).set (.int .i64 s.e) (j := 4) (by simp)
  simp only [List.set_cons_zero, List.set_cons_succ] at B5
  have B6 := B5.mono (Below.drew (Below.refl _ _))
  have hb5 : Below w.heap.size w (((((W.setCell ⟨w.heap.size, 0, none⟩ (.int .i64 s.a)).setCell ⟨w.heap.size, 1, none⟩ (.int .i64 s.b)).setCell ⟨w.heap.size, 2, none⟩ (.int .i64 s.c)).setCell ⟨w.heap.size, 3, none⟩ (.int .i64 s.d)).setCell ⟨w.heap.size, 4, none⟩ (.int .i64 s.e)).drew := by
    rw [HW.out]
    (repeat (first | with_reducible exact Below.refl _ _ | with_reducible exact hbw | (with_reducible refine Below.setCell ?_ ?_ _; rotate_left; · first | exact Nat.le_refl _ | omega | (simp; done) | (simp; omega)) | (with_reducible refine Below.alloc ?_ ?_ _; rotate_left; · first | exact Nat.le_refl _ | omega | (simp; done) | (simp; omega)) | with_reducible refine below_drewN ?_ _ | with_reducible refine Below.drew ?_))
  generalize (((((W.setCell ⟨w.heap.size, 0, none⟩ (.int .i64 s.a)).setCell ⟨w.heap.size, 1, none⟩ (.int .i64 s.b)).setCell ⟨w.heap.size, 2, none⟩ (.int .i64 s.c)).setCell ⟨w.heap.size, 3, none⟩ (.int .i64 s.d)).setCell ⟨w.heap.size, 4, none⟩ (.int .i64 s.e)).drew = w5 at B6 hb5 ⊢
  have q0 := B6.at' 0 _ rfl
  have q1 := B6.at' 1 _ rfl
  have q2 := B6.at' 2 _ rfl
  have q3 := B6.at' 3 _ rfl
  have q4 := B6.at' 4 _ rfl
  clear B5 B6 B0 r0 r1 r2 r3 r4 f0 f1 f2 f3 f4 k0 k1 k2 k3 k4
  go_wp2
  exact bodyPost_ret (v := .agg #[.int .i64 s.a, .int .i64 s.b, .int .i64 s.c, .int .i64 s.d, .int .i64 s.e]) (by simp [results, Tryz.results97, go_sem, q0, q1, q2, q3, q4]) rfl ⟨rfl, hb5⟩
set_option maxHeartbeats 1000000 in
theorem l04Sound_any (v : Value) (s : SndD) (w : World) (h : Ints w v s.list) :
    Calls Tryz.prog 83 #[v] w fun e w' => e = .returned (.agg #[.int .i64 s.a, .int .i64 s.b, .int .i64 s.c, .int .i64 s.d, .int .i64 s.e]) ∧ Below w.heap.size w w' := by
  obtain ⟨a, ca, rfl, _⟩ := id h
  obtain ⟨b, o, rfl, cp⟩ := h.cells (by simp [SndD.list])
  have x0 := cp 0 _ rfl
  have x1 := cp 1 _ rfl
  have x2 := cp 2 _ rfl
  have x3 := cp 3 _ rfl
  have x4 := cp 4 _ rfl
  rw [Nat.add_zero] at x0
  have lb := World.block_lt_of_cell? w _ x0
  simp only at lb
  have h5 : s.list.length = 5 := rfl
  rw [h5]
  have ne : ¬ b = w.heap.size := by omega
  have hbA := belowA w (Obj.cells #[.int .i64 0, .int .i64 0, .int .i64 0, .int .i64 0, .int .i64 0] 44)
  obtain ⟨W, hW⟩ : ∃ W, W = w.alloc (.cells #[.int .i64 0, .int .i64 0, .int .i64 0, .int .i64 0, .int .i64 0] 44) := ⟨_, rfl⟩
  have hWz : W.heap.size = w.heap.size + 1 := by rw [hW]; simp
  have k0 := cellB hbA x0
  have k1 := cellB hbA x1
  have k2 := cellB hbA x2
  have k3 := cellB hbA x3
  have k4 := cellB hbA x4
  rw [← hW] at k0 k1 k2 k3 k4
  have HW := Lib.hid hW
  have B0 := Box.alloc w [.int .i64 0, .int .i64 0, .int .i64 0, .int .i64 0, .int .i64 0] 44 w.heap.size rfl
  rw [← hW] at B0
  have r0 := B0.at' 0 _ rfl
  have r1 := B0.at' 1 _ rfl
  have r2 := B0.at' 2 _ rfl
  have r3 := B0.at' 3 _ rfl
  have r4 := B0.at' 4 _ rfl
  have f0 := B0.fr 0
  have f1 := B0.fr 1
  have f2 := B0.fr 2
  have f3 := B0.fr 3
  have f4 := B0.fr 4
  have l0 := B0.lt
  have s1 : (1 : Int) < 5 := by omega
  clear cp x0 x1 x2 x3 x4
  go_enter Tryz.func83, Tryz.ntmps83
  go_wp2_with fail
  rw [← hW]
  clear hW
  refine wp_region_ord [(0, true), (1, true), (2, true), (3, true), (4, true), (5, true), (6, true), (7, true), (8, true), (9, true), (10, true), (11, true), (12, true), (13, true), (14, true), (15, true), (16, false)] (some w.heap.size) (by kernel_rfl) (by kernel_rfl) ?_
  (repeat (with_reducible refine wpOrd_soft (fun K hK => ?_); simp only [List.getElem?_toArray, List.getElem?_cons_zero, List.getElem?_cons_succ]; first | (go_simp; refine hK _ ?_) | (simp only [undef]; go_simp; refine hK _ ?_); clear hK K))
  (with_reducible refine wpOrd_hard ?_; simp only [List.getElem?_toArray, List.getElem?_cons_zero, List.getElem?_cons_succ])
  go_wp2_with fail
  refine ⟨grown_five _ _ _ _ _ _ _, ?_⟩
  (with_reducible refine wpOrd_nil ?_); refine NoPanic.normal ?_
  have B5 := ((((B0.set (.int .i64 s.a) (j := 0) (by simp)).set (.int .i64 s.b) (j := 1) (by simp)).set (.int .i64 s.c) (j := 2) (by simp)).set (.int .i64 s.d) (j := 3) (by simp)).set (.int .i64 s.e) (j := 4) (by simp)
  simp only [List.set_cons_zero, List.set_cons_succ] at B5
  have B6 := B5.mono (Below.drew (Below.refl _ _))
  have hb5 : Below w.heap.size w (((((W.setCell ⟨w.heap.size, 0, none⟩ (.int .i64 s.a)).setCell ⟨w.heap.size, 1, none⟩ (.int .i64 s.b)).setCell ⟨w.heap.size, 2, none⟩ (.int .i64 s.c)).setCell ⟨w.heap.size, 3, none⟩ (.int .i64 s.d)).setCell ⟨w.heap.size, 4, none⟩ (.int .i64 s.e)).drew := by
    rw [HW.out]
    (repeat (first | with_reducible exact Below.refl _ _ | with_reducible exact hbw | (with_reducible refine Below.setCell ?_ ?_ _; rotate_left; · first | exact Nat.le_refl _ | omega | (simp; done) | (simp; omega)) | (with_reducible refine Below.alloc ?_ ?_ _; rotate_left; · first | exact Nat.le_refl _ | omega | (simp; done) | (simp; omega)) | with_reducible refine below_drewN ?_ _ | with_reducible refine Below.drew ?_))
  generalize (((((W.setCell ⟨w.heap.size, 0, none⟩ (.int .i64 s.a)).setCell ⟨w.heap.size, 1, none⟩ (.int .i64 s.b)).setCell ⟨w.heap.size, 2, none⟩ (.int .i64 s.c)).setCell ⟨w.heap.size, 3, none⟩ (.int .i64 s.d)).setCell ⟨w.heap.size, 4, none⟩ (.int .i64 s.e)).drew = w5 at B6 hb5 ⊢
  have q0 := B6.at' 0 _ rfl
  have q1 := B6.at' 1 _ rfl
  have q2 := B6.at' 2 _ rfl
  have q3 := B6.at' 3 _ rfl
  have q4 := B6.at' 4 _ rfl
  clear B5 B6 B0 r0 r1 r2 r3 r4 f0 f1 f2 f3 f4 k0 k1 k2 k3 k4
  go_wp2
  exact bodyPost_ret (v := .agg #[.int .i64 s.a, .int .i64 s.b, .int .i64 s.c, .int .i64 s.d, .int .i64 s.e]) (by simp [results, Tryz.results83, go_sem, q0, q1, q2, q3, q4]) rfl ⟨rfl, hb5⟩

theorem agg_at {k : Nat} {t s : SndD} (h : k < 5) (ht : ∀ x ∈ t.list, hzOk x) (hs : ∀ x ∈ s.list, hzOk x) : hzOk (t.list.getD k 0) ∧ hzOk (s.list.getD k 0) := ⟨ht _ (list_at h).1, hs _ (list_at h).1⟩
set_option maxHeartbeats 2000000 in
theorem apart_any (t s : SndD) (w : World) (ht : ∀ x ∈ t.list, hzOk x) (hs : ∀ x ∈ s.list, hzOk x) :
    Calls Tryz.prog 75 #[.agg #[.int .i64 t.a, .int .i64 t.b, .int .i64 t.c, .int .i64 t.d, .int .i64 t.e], .agg #[.int .i64 s.a, .int .i64 s.b, .int .i64 s.c, .int .i64 s.d, .int .i64 s.e]] w fun e w' => ∃ v, e = .returned v ∧ OwnInts w.heap.size w'.heap.size w' v (devs t s) ∧ Below w.heap.size w w' := by
  have HT := Lib.hid ht; have HS := Lib.hid hs
  clear ht hs
  go_enter Tryz.func75, Tryz.ntmps75
  go_wp2_with fail
  refine (listOf_any s _).mono ?_
  rintro e w1 ⟨v1, rfl, ho1, hb1⟩
  obtain ⟨a1, c1, rfl⟩ := ho1.form
  have hbA : Below w.heap.size w ((w.alloc (.cells #[.int .i64 t.a, .int .i64 t.b, .int .i64 t.c, .int .i64 t.d, .int .i64 t.e] 44)).alloc (.cells #[.int .i64 s.a, .int .i64 s.b, .int .i64 s.c, .int .i64 s.d, .int .i64 s.e] 44)) := by (repeat (first | with_reducible exact Below.refl _ _ | with_reducible exact hbw | (with_reducible refine Below.setCell ?_ ?_ _; rotate_left; · first | exact Nat.le_refl _ | omega | (simp; done) | (simp; omega)) | (with_reducible refine Below.alloc ?_ ?_ _; rotate_left; · first | exact Nat.le_refl _ | omega | (simp; done) | (simp; omega)) | with_reducible refine below_drewN ?_ _ | with_reducible refine Below.drew ?_))
  have B1 := (Box.alloc w [.int .i64 t.a, .int .i64 t.b, .int .i64 t.c, .int .i64 t.d, .int .i64 t.e] 44 _ rfl).mono ((belowA _ (.cells #[.int .i64 s.a, .int .i64 s.b, .int .i64 s.c, .int .i64 s.d, .int .i64 s.e] 44)))
  have B2 := B1.mono hb1
  have q0 := B2.at' 0 _ rfl
  have q1 := B2.at' 1 _ rfl
  have q2 := B2.at' 2 _ rfl
  have q3 := B2.at' 3 _ rfl
  have q4 := B2.at' 4 _ rfl
  have hb2 : Below w.heap.size w w1 := hbA.trans (hb1.mono hbA.size)
  have F1 := Lib.hid ho1.rd
  have h5 : s.list.length = 5 := rfl
  have h5' : t.list.length = 5 := rfl
  rw [h5]
  have HB2 := Lib.hid hb2
  have HB1 := Lib.hid hbA.size
  clear B1 B2 ho1 hb1 hbA hb2
  go_wp2_with fail
  refine (listOf_any t _).mono ?_
  rintro e w2 ⟨v2, rfl, ho2, hb2⟩
  obtain ⟨a2, c2, rfl⟩ := ho2.form
  have F2 := Lib.hid ho2.rd
  have F1' := Lib.hid (Ints.mono F1.out hb2)
  have HB := Lib.hid (HB2.out.trans (hb2.mono HB2.out.size))
  clear ho2 hb2 q0 q1 q2 q3 q4 F1 HB2
  rw [h5']
  have hz := HB.out.size
  go_wp2_with fail
  go_loopw [5, 7, 8, 14] (fun o _ _ iv wr => ∃ (k : Nat) (a' : Option Addr) (c' : Nat), k ≤ 5 ∧ iv = .int .i64 (k : Int) ∧ o = .slice a' k c' ∧ wr.ownsRow w2.heap.size 2 1 (.slice a' k c') k (((devs t s).take k).map (Value.int .i64)) ∧ Below w2.heap.size w2 wr) (fun _ _ _ iv _ => 5 - (intOf iv).toNat)
  case atStart => exact ⟨0, none, 0, Nat.zero_le _, by go_num, rfl, by simpa using owns_nil _ _ _ _, Below.refl _ _⟩
  case round =>
    obtain ⟨k, a', c', hk, rfl, rfl, ho, hc⟩ := hrel
    have HO := Lib.hid ho; have HC := Lib.hid hc
    clear ho hc
    have hz := HC.out.size
    by_cases hlt : k < 5
    · have hlt' : (k : Int) < 5 := by omega
      obtain ⟨b1, o1, rfl, cp⟩ := F1'.out.cells (by simp [h5])
      obtain ⟨b2, o2, rfl, cq⟩ := F2.out.cells (by simp [h5'])
      have z1 := cellB HC.out (cp k _ (list_at hlt).2)
      have z2 := cellB HC.out (cq k _ (list_at hlt).2)
      clear cp cq
      have hh := Lib.hid (agg_at hlt HT.out HS.out)
      have D := Lib.hid (devs_at (t := t) (s := s) hlt)
      obtain ⟨x, hx⟩ : ∃ x, x = t.list.getD k 0 := ⟨_, rfl⟩
      obtain ⟨y, hy⟩ : ∃ y, y = s.list.getD k 0 := ⟨_, rfl⟩
      rw [← hx] at hh z2 D
      rw [← hy] at hh z1 D
      clear hx hy
      go_wp2_with fail
      refine (cents_any (centV x y) x y _ hh.out.1 hh.out.2 rfl).mono ?_
      rintro e w3 ⟨rfl, rfl⟩
      go_wp2_with (at_builtin; refine append_one_at rfl _ _ 22 rfl w2.heap.size 2 (.int .i64 0) 1 8 Tryz.underlying22 info_int rfl (by decide) _ k _ rfl HO.out [.int .i64 (centV x y)] rfl (by simp [Value.oneCell']) w3.heap.size rfl rfl (by omega) (by decide) (by omega) ?_)
      intro a7 c7 w7 ho7 hg7 hb7 _
      have HO7 := Lib.hid ho7
      have HC7 := Lib.hid (HC.out.trans hb7)
      clear ho7 hg7 hb7
      go_wp2
      go_roundw
      case rel => exact ⟨k + 1, a7, c7, by omega, by go_num, rfl, by rw [D.out]; simpa using HO7.out, HC7.out⟩
      case measure => simp [intOf]; omega
    · obtain rfl : k = 5 := by omega
      go_wp2
      go_ret
      exact ⟨_, rfl, OwnInts.mk' (owns_base (by have := HO.out; simpa [devs] using this) HB.out.size), HB.out.trans (HC.out.mono HB.out.size)⟩

end Go.Proofs.YtenedpboehkmjaaGreat
/- Deviations of both packages, third part: the reference's deviations from a goal. -/
set_option linter.unusedSimpArgs false
set_option linter.unnecessarySimpa false
set_option linter.unusedVariables false
set_option maxRecDepth 100000
namespace Go.Proofs.YtenedpboehkmjaaGreat
open Go.RowKit

theorem SndIn.alloc (w : World) (q : Nat) (s : SndD) (e : TypeId) (hq : w.heap.size = q) : SndIn (w.alloc (.cells #[.int .i64 s.a, .int .i64 s.b, .int .i64 s.c, .int .i64 s.d, .int .i64 s.e] e)) q 0 s := by
  have B := Box.alloc w [.int .i64 s.a, .int .i64 s.b, .int .i64 s.c, .int .i64 s.d, .int .i64 s.e] e q hq
  exact ⟨B.lt, B.at' 0 _ rfl, B.at' 1 _ rfl, B.at' 2 _ rfl, B.at' 3 _ rfl, B.at' 4 _ rfl⟩

theorem owns_geS {w : World} {base : Nat} {e : TypeId} {size n : Nat} {v : Value} {cs : List Value} (h : w.ownsRow base e size v n cs) {g : Nat} (hg : v.ownBlock = some g) : base ≤ g := by
  rcases h.2 with h2 | ⟨g', cap, cur, rfl, x1, x2, x3⟩
  · rw [h2.1] at hg; cases hg
  · cases hg; exact x1
theorem grown_stepS {a b : World} {row : Option Nat} (h : Below a.heap.size a b) : a.grownBy b row := ⟨h.os, h.tape, h.output, h.size, fun k hk _ => h.block k hk⟩
theorem grown_transS {a b c : World} {row : Option Nat} (h : a.grownBy b row) (k : b.grownBy c row) : a.grownBy c row :=
  ⟨k.os.trans h.os, k.tape.trans h.tape, k.output.trans h.output, Nat.le_trans h.size k.size, fun i hi hr => (k.block i (Nat.lt_of_lt_of_le hi h.size) hr).trans (h.block i hi hr)⟩

/-- What l10Dev answers. -/
def DevPost (t s : SndD) (w : World) (e : Ending) (w' : World) : Prop :=
  Below w.heap.size w w' ∧ (sndOk s → ∃ v, e = .returned (.tuple #[v, .bool true]) ∧ OwnInts w.heap.size w'.heap.size w' v (devs t s)) ∧ (¬ sndOk s → e = .returned (.tuple #[.slice none 0 0, .bool false]))
set_option maxHeartbeats 2000000 in
theorem l10Dev_any (q o : Nat) (t : SndD) (v : Value) (s : SndD) (w : World) (hi : SndIn w q o t) (ht : ∀ x ∈ t.list, hzOk x) (h : Ints w v s.list) :
    Calls Tryz.prog 62 #[.pointer (some ⟨q, o, none⟩), v] w fun e w' => DevPost t s w e w' := by
  have HT := Lib.hid ht; have HI := Lib.hid hi; have H := Lib.hid h
  clear ht hi h
  obtain ⟨a, c, rfl, _⟩ := id H.out
  have h5 : s.list.length = 5 := rfl
  have h5' : t.list.length = 5 := rfl
  go_enter Tryz.func62, Tryz.ntmps62
  go_wp2_with fail
  refine (l04Sound_any _ s _ H.out).mono ?_
  rintro e w1 ⟨rfl, hb1⟩
  have HB1 := Lib.hid hb1
  clear hb1
  go_wp2_with fail
  have SA := SndIn.alloc w1 w1.heap.size s 44 rfl
  have hbA : Below w.heap.size w (w1.alloc (.cells #[.int .i64 s.a, .int .i64 s.b, .int .i64 s.c, .int .i64 s.d, .int .i64 s.e] 44)) := HB1.out.trans ((belowA _ _).mono HB1.out.size)
  refine (l04Ok_any (decide (sndOk s)) w1.heap.size 0 s _ SA rfl).mono ?_
  rintro e w2 ⟨rfl, hb2⟩
  have HB2 := Lib.hid (hbA.trans (hb2.mono hbA.size))
  clear hb2 hbA SA
  by_cases g : sndOk s
  · have HG := Lib.hid g
    have e1 : decide (sndOk s) = true := decide_eq_true g
    clear g
    rw [e1]
    clear e1
    go_wp2_with fail
    refine (l04List_any q o t _ (HI.out.mono (HB2.out.mono (by have := HI.out.lt; omega)))).mono ?_
    rintro e w3 ⟨v3, rfl, ho3, hb3⟩
    obtain ⟨a3, c3, rfl⟩ := ho3.form
    have F3 := Lib.hid ho3.rd
    have HB3 := Lib.hid (HB2.out.trans (hb3.mono HB2.out.size))
    clear ho3 hb3
    rw [h5']
    go_wp2_with fail
    have F1 := Lib.hid (Ints.mono H.out (HB3.out.mono (Nat.le_refl _)))
    have hz3 := HB3.out.size
    go_loopw [8, 9] (fun o iv wr => ∃ (k : Nat) (a' : Option Addr) (c' : Nat), k ≤ 5 ∧ iv = .int .i64 (k : Int) ∧ o = .slice a' k c' ∧ wr.ownsRow w3.heap.size 2 1 (.slice a' k c') k (((devs t s).take k).map (Value.int .i64)) ∧ Below w3.heap.size w3 wr) (fun _ iv _ => 5 - (intOf iv).toNat)
    case atStart => exact ⟨0, some ⟨w3.heap.size, 0, none⟩, 0, Nat.zero_le _, by go_num, rfl, by simpa using owns_empty w3 2 1 _ (Nat.le_refl _), by (repeat (first | with_reducible exact Below.refl _ _ | with_reducible exact hbw | (with_reducible refine Below.setCell ?_ ?_ _; rotate_left; · first | exact Nat.le_refl _ | omega | (simp; done) | (simp; omega)) | (with_reducible refine Below.alloc ?_ ?_ _; rotate_left; · first | exact Nat.le_refl _ | omega | (simp; done) | (simp; omega)) | with_reducible refine below_drewN ?_ _ | with_reducible refine Below.drew ?_))⟩
    case round =>
      obtain ⟨k, a', c', hk, rfl, rfl, ho, hc⟩ := hrel
      have HO := Lib.hid ho; have HC := Lib.hid hc
      clear ho hc
      have hz := HC.out.size
      by_cases hlt : k < 5
      · have hlt' : (k : Int) < 5 := by omega
        obtain ⟨b1, o1, rfl, cp⟩ := F1.out.cells (by simp [h5])
        obtain ⟨b2, o2, rfl, cq⟩ := F3.out.cells (by simp [h5'])
        have z1 := cellB HC.out (cp k _ (list_at hlt).2)
        have z2 := cellB HC.out (cq k _ (list_at hlt).2)
        have l1 := World.block_lt_of_cell? _ _ (cp k _ (list_at hlt).2)
        have l2 := World.block_lt_of_cell? _ _ (cq k _ (list_at hlt).2)
        simp only at l1 l2
        clear cp cq
        have hh := Lib.hid (agg_at hlt HT.out (fun x hx => (snd_iff s).1 HG.out |>.1 x hx))
        have D := Lib.hid (devs_at (t := t) (s := s) hlt)
        obtain ⟨x, hx⟩ : ∃ x, x = t.list.getD k 0 := ⟨_, rfl⟩
        obtain ⟨y, hy⟩ : ∃ y, y = s.list.getD k 0 := ⟨_, rfl⟩
        rw [← hx] at hh z2 D
        rw [← hy] at hh z1 D
        clear hx hy
        obtain ⟨row, hrow⟩ : ∃ row, row = (Value.slice a' k c').ownBlock := ⟨_, rfl⟩
        have n1 : ∀ y', (ext wr row y').cell? ⟨b1, o1 + k, none⟩ = some (.int .i64 y) := fun y' => (cell?_ext (w := wr) (by omega) (by rw [hrow]; intro e; have := owns_geS HO.out e.symm; omega)).trans z1
        have n2 : ∀ y', (ext wr row y').cell? ⟨b2, o2 + k, none⟩ = some (.int .i64 x) := fun y' => (cell?_ext (w := wr) (by omega) (by rw [hrow]; intro e; have := owns_geS HO.out e.symm; omega)).trans z2
        have HRow := Lib.hid hrow
        clear hrow z1 z2
        go_wp2_with fail
        refine wp_region_ord [(0, true), (1, true), (2, true), (3, true), (4, true), (5, true), (6, true), (7, true), (8, true), (9, false), (10, false), (11, false), (12, true)] (row) (by kernel_rfl) (by kernel_rfl) ?_
        (repeat (with_reducible refine wpOrd_soft (fun K hK => ?_); simp only [List.getElem?_toArray, List.getElem?_cons_zero, List.getElem?_cons_succ]; first | (go_simp; refine hK _ ?_) | (simp only [undef]; go_simp; refine hK _ ?_); clear hK K))
        (with_reducible refine wpOrd_hard ?_; simp only [List.getElem?_toArray, List.getElem?_cons_zero, List.getElem?_cons_succ])
        go_wp2_with fail
        refine (l02Between_any (centV x y) x y _ hh.out.1 hh.out.2 rfl).mono ?_
        rintro e w4 ⟨rfl, rfl⟩
        go_wp2_with fail
        refine ⟨grown_drewS (grown_selfS _ _), ?_⟩
        (with_reducible refine wpOrd_hard ?_; simp only [List.getElem?_toArray, List.getElem?_cons_zero, List.getElem?_cons_succ])
        go_wp2_with fail
        refine ⟨grown_transS (grown_drewS (grown_selfS _ _)) (grown_stepS (belowA _ _)), ?_⟩
        (with_reducible refine wpOrd_hard ?_; simp only [List.getElem?_toArray, List.getElem?_cons_zero, List.getElem?_cons_succ])
        rw [show (wr.alloc (.cells #[.int .i64 (centV x y)] 2)).drew = wr.drew.alloc (.cells #[.int .i64 (centV x y)] 2) from rfl]
        refine append_one_at rfl _ _ 22 rfl w3.heap.size 2 (.int .i64 0) 1 8 Tryz.underlying22 info_int rfl (by decide) _ k _ rfl HO.out.drew [.int .i64 (centV x y)] rfl (by simp [Value.oneCell']) wr.heap.size rfl rfl (by omega) (by decide) (by simpa using hz) ?_
        intro a7 c7 w7 ho7 hg7 hb7 _
        have HO7 := Lib.hid ho7
        have HC7 := Lib.hid (HC.out.trans (undrew hb7))
        have HG7 := Lib.hid hg7
        clear ho7 hg7 hb7
        refine ⟨by rw [HRow.out]; exact grown_transS (grown_drewS (grown_selfS _ _)) HG7.out, ?_⟩
        (repeat (with_reducible refine wpOrd_soft (fun K hK => ?_); simp only [List.getElem?_toArray, List.getElem?_cons_zero, List.getElem?_cons_succ]; first | (go_simp; refine hK _ ?_) | (simp only [undef]; go_simp; refine hK _ ?_); clear hK K))
        (with_reducible refine wpOrd_nil ?_); refine NoPanic.normal ?_
        go_wp2
        go_roundw
        case rel => exact ⟨k + 1, a7, c7, by omega, by go_num, rfl, by rw [D.out]; simpa using HO7.out, HC7.out⟩
        case measure => simp [intOf]; omega
      · obtain rfl : k = 5 := by omega
        go_wp2
        go_ret2
        refine ⟨HB3.out.trans (HC.out.mono HB3.out.size), fun _ => ⟨_, rfl, OwnInts.mk' (owns_base (by have := HO.out; simpa [devs] using this) HB3.out.size)⟩, fun h => absurd HG.out h⟩
  · have HG := Lib.hid g
    have e1 : decide (sndOk s) = false := decide_eq_false g
    clear g
    rw [e1]
    clear e1
    go_wp2
    go_ret2
    exact ⟨HB2.out, fun h => absurd h HG.out, fun _ => rfl⟩

end Go.Proofs.YtenedpboehkmjaaGreat
