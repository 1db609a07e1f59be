/- Contracts of l26Order and shifts: 0, -1, 1, -2, 2 .. -24, 24. -/
import Derived.Test.YtgelilelmmocgaaApp
import Derived.Test.YtgelilelmmocgaaSortI
set_option linter.unusedSimpArgs false
set_option linter.unnecessarySimpa false
set_option linter.unusedVariables false
set_option maxRecDepth 100000
namespace Go.Proofs.Ytgelilelmmocgaa
open Go.RowKit

/-- 'out = append(out, x, y)' of cells of size 1, out owned, the pair laid just ahead. -/
theorem append_two {P : Program} {w : World} {ops : Array Oper} {rest : List Oper} {o : Oper} {a : Act} {Q : Exit → Act → World → Prop} (hgd : o.guard = none) (s x : Operand) (t : TypeId)
    (ho : o.op = .call { callee := .builtin .append, args := #[s, x], argTypes := #[t, t] })
    (base : Nat) (e : TypeId) (z : Value) (bytes : Nat) (ht : P.underlying t = some (.slice e)) (hi : (P.info? e).map (fun i => (i.zero, i.size, i.bytes)) = some (some z, 1, bytes)) (hzs : z.cells.size = 1)
    (v : Value) (n : Nat) (xs : List Value) (hs : a.eval s = v) (hown : w.ownsRow base e 1 v n xs) (news : List Value) (hl : news.length = 2) (h1 : ∀ u ∈ news, u.oneCell' = true)
    (hx : a.eval x = .slice (some ⟨w.heap.size, 0, none⟩) 2 2) (hn : n ≤ 1000000000) (hbytes : bytes ≤ 1000) (hbase : base ≤ w.heap.size)
    (h : ∀ a' cap' w', w'.ownsRow base e 1 (.slice a' (n + 2) cap') (n + 2) (xs ++ news) → w.grownBy w' v.ownBlock → Below base w w' → wpList P ops Q rest (Act.put a o.dst (.slice a' (n + 2) cap')) w') :
    wpList P ops Q (o :: rest) a (w.alloc (.cells news.toArray e)) := by
  obtain ⟨i0, hi, hz0, hz1, hz2⟩ := info_parts hi
  have hb2 : (n + 2) * bytes ≤ 140737488355328 := Nat.le_trans (Nat.mul_le_mul (show n + 2 ≤ 1000000002 by omega) hbytes) (by omega)
  refine wpList_append_own _ hgd s x t ho base e i0 z 1 bytes ht hi hz0 hz1 hz2 hzs (by decide) v n xs hs (hown.alloc _) ⟨w.heap.size, 0, none⟩ 2 2 news hx (by omega) (fun j u hu => ?_) h1 (by unfold maxLen; omega) hb2 (by simp; omega) (fun v' w' ho' hg' _ => ?_)
  · rw [Addr.add_lit, Nat.zero_add, cell_of_row _ w.heap.size j news.toArray e (0, 0) (heap_alloc_new w _)]
    simpa using hu
  · obtain ⟨a', cap', rfl⟩ : ∃ a' cap', v' = .slice a' (n + 2) cap' := by
      rcases ho'.2 with ⟨rfl, h0⟩ | ⟨g, cap, cur, rfl, _⟩
      · omega
      · exact ⟨_, _, rfl⟩
    have hg2 : w.grownBy w' v.ownBlock := grown_trans (World.grownBy_alloc _ _ _) hg'
    exact h a' cap' w' ho' hg2 ((Below.refl base w).grown hg2 hbase (fun k hk => (hown.lt k hk).1))

def shK (k : Nat) : Int := if k % 2 = 1 then -(((k + 1) / 2 : Nat) : Int) else ((k / 2 : Nat) : Int)
theorem shK_bd {k : Nat} (h : k ≤ 48) : -24 ≤ shK k ∧ shK k ≤ 24 := by unfold shK; split <;> omega
theorem shK_odd (m : Nat) : shK (2 * m + 1) = -((m : Int) + 1) := by unfold shK; rw [if_pos (by omega)]; omega
theorem shK_even (m : Nat) : shK (2 * m) = (m : Int) := by unfold shK; rw [if_neg (by omega)]; omega
def shL (k : Nat) : List Int := (List.range k).map shK
theorem shL_len (k : Nat) : (shL k).length = k := by simp [shL]
theorem shL_get {n k : Nat} (h : k < (shL n).length) : (shL n)[k] = shK k := by simp [shL]
theorem shL_two (m : Nat) : shL (2 * m + 3) = shL (2 * m + 1) ++ [-((m : Int) + 1), (m : Int) + 1] := by
  have e1 : shK (2 * m + 1) = -((m : Int) + 1) := shK_odd m
  have e2 : shK (2 * m + 2) = ((m : Int) + 1) := by have := shK_even (m + 1); rw [show 2 * (m + 1) = 2 * m + 2 by omega] at this; rw [this]; omega
  unfold shL
  rw [List.range_succ, List.range_succ]
  simp [e1, e2]

theorem l26Order_any (k : Nat) (w : World) (h : k ≤ 48) :
    Calls Try.prog 75 #[.int .i64 (k : Int)] w fun e w' => e = .returned (.int .i64 (shK k)) ∧ w' = w := by
  by_cases p : k % 2 = 1
  · obtain ⟨m, rfl⟩ : ∃ m, k = 2 * m + 1 := ⟨k / 2, by omega⟩
    have E := Lib.hid (shK_odd m)
    obtain ⟨n, hn⟩ : ∃ n : Int, n = ((2 * m + 1 : Nat) : Int) := ⟨_, rfl⟩
    rw [← hn]
    have t1 : IntKind.i64.wrap (n.tmod 2) = 1 := by rw [Int.tmod_eq_emod_of_nonneg (by omega), show n % 2 = 1 by omega]; decide
    have d1 : (n.tmod 2 == 1) = true := by rw [Int.tmod_eq_emod_of_nonneg (by omega), show n % 2 = 1 by omega]; rfl
    have w1 : IntKind.i64.wrap (n + 1) = n + 1 := IntWalk.i64_in _ (by omega)
    have w2 : IntKind.i64.wrap (-(n + 1)) = -(n + 1) := IntWalk.i64_in _ (by omega)
    have w3 : IntKind.i64.wrap (-((n + 1).tdiv 2)) = -((m : Int) + 1) := by
      rw [Int.tdiv_eq_ediv_of_nonneg (by omega), show (n + 1) / 2 = (m : Int) + 1 by omega]; exact IntWalk.i64_in _ (by omega)
    have N := Lib.hid hn; clear hn
    go_enter Try.func75, Try.ntmps75
    go_wp2
    go_ret
    exact ⟨by rw [E.out]; rfl, rfl⟩
  · obtain ⟨m, rfl⟩ : ∃ m, k = 2 * m := ⟨k / 2, by omega⟩
    have E := Lib.hid (shK_even m)
    obtain ⟨n, hn⟩ : ∃ n : Int, n = ((2 * m : Nat) : Int) := ⟨_, rfl⟩
    rw [← hn]
    have t1 : IntKind.i64.wrap (n.tmod 2) = 0 := by rw [Int.tmod_eq_emod_of_nonneg (by omega), show n % 2 = 0 by omega]; decide
    have d1 : (n.tmod 2 == 1) = false := by rw [Int.tmod_eq_emod_of_nonneg (by omega), show n % 2 = 0 by omega]; rfl
    have w3 : IntKind.i64.wrap (n.tdiv 2) = (m : Int) := by
      rw [Int.tdiv_eq_ediv_of_nonneg (by omega), show n / 2 = (m : Int) by omega]; exact IntWalk.i64_in _ (by omega)
    have N := Lib.hid hn; clear hn
    go_enter Try.func75, Try.ntmps75
    go_wp2
    go_ret
    exact ⟨by rw [E.out]; rfl, rfl⟩

theorem owns_single (w : World) (e : TypeId) (base : Nat) (n : Int) (h : base ≤ w.heap.size) : (w.alloc (.cells #[.int .i64 n] e)).ownsRow base e 1 (.slice (some ⟨w.heap.size, 0, none⟩) 1 1) 1 [.int .i64 n] :=
  ⟨by simp, .inr ⟨w.heap.size, 1, #[.int .i64 n], rfl, h, heap_alloc_new w _, by simp, by simp [maxLen], by simp, by simp⟩⟩

set_option maxHeartbeats 1000000 in
theorem shifts_any (w : World) :
    Calls Try.prog 76 #[] w fun e w' => ∃ v', e = .returned v' ∧ w'.ownsRow w.heap.size 2 1 v' 49 ((shL 49).map (Value.int .i64)) ∧ Below w.heap.size w w' := by
  go_enter Try.func76, Try.ntmps76
  go_wp2_with fail
  go_loopw [1, 2] (fun o i wr => ∃ (m n : Nat) (a' : Option Addr) (c' : Nat), m ≤ 24 ∧ n = 2 * m + 1 ∧ i = .int .i64 ((m : Int) + 1) ∧ o = .slice a' n c' ∧ wr.ownsRow w.heap.size 2 1 (.slice a' n c') n ((shL n).map (Value.int .i64)) ∧ Below w.heap.size w wr) (fun _ i _ => 25 - (intOf i).toNat)
  case atStart => exact ⟨0, 1, _, _, by omega, rfl, by go_num, rfl, owns_single _ _ _ _ (Nat.le_refl _), by (repeat (first | with_reducible exact Below.refl _ _ | with_reducible exact hbw | (with_reducible refine Below.setCell ?_ ?_ _; rotate_left; · first | exact Nat.le_refl _ | omega | (simp; done) | (simp; omega)) | (with_reducible refine Below.alloc ?_ ?_ _; rotate_left; · first | exact Nat.le_refl _ | omega | (simp; done) | (simp; omega)) | with_reducible refine below_drewN ?_ _ | with_reducible refine Below.drew ?_))⟩
  case round =>
    obtain ⟨m, n, a1, c1, hm, hn, rfl, rfl, ho, hb⟩ := hrel
    have hz := hb.size
    obtain ⟨u, hu⟩ : ∃ u : Int, u = (m : Int) + 1 := ⟨_, rfl⟩
    rw [← hu]
    by_cases hlt : m < 24
    · have w1 : IntKind.i64.wrap (u + 1) = u + 1 := IntWalk.i64_in _ (by omega)
      have w2 : IntKind.i64.wrap (-u) = -u := IntWalk.i64_in _ (by omega)
      have d1 : decide (u ≤ 24) = true := by simp; omega
      have hn2 : n ≤ 1000 := by omega
      have S := Lib.hid (show shL (n + 2) = shL n ++ [-u, u] by rw [hn, hu]; exact shL_two m)
      have HN := Lib.hid hn; clear hn
      have HU := Lib.hid hu; clear hu
      go_wp2_with (at_builtin; refine append_two rfl _ _ 22 rfl w.heap.size 2 (.int .i64 0) 8 Try.underlying22 info_int64 rfl _ n _ rfl ho [.int .i64 (-u), .int .i64 u] rfl (by simp [Value.oneCell']) rfl (by omega) (by decide) hz ?_)
      intro a' cap' w3 ho3 _ hb3
      go_wp2
      go_roundw
      case rel => exact ⟨m + 1, n + 2, a', cap', by omega, by have := HN.out; omega, by have := HU.out; subst this; go_num, rfl, by rw [S.out]; simpa using ho3, hb.trans hb3⟩
      case measure => have := HU.out; simp [intOf] <;> omega
    · have d1 : decide (u ≤ 24) = false := by simp; omega
      have hn' : n = 49 := by omega
      have HN := Lib.hid hn'; clear hn hn' hu
      go_wp2
      go_ret
      exact ⟨_, rfl, by have := HN.out; subst this; exact ho, hb⟩

end Go.Proofs.Ytgelilelmmocgaa
