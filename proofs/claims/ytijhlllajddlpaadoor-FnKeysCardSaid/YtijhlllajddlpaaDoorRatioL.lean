/- Ratios in lowest terms: common factors left out, products. Plain; contracts of gcd, l24Gcd and productOf. -/
import Derived.Test.YtijhlllajddlpaaDoorOneAct
import Derived.Test.YtijhlllajddlpaaDoorKInts
import Derived.Test.YtijhlllajddlpaaDoorRegT
set_option linter.unusedSimpArgs false
set_option linter.unnecessarySimpa false
set_option linter.unusedVariables false
set_option maxRecDepth 100000
namespace Go.Proofs.YtijhlllajddlpaaDoor
open Go.RowKit

def gcdI (a b : Int) : Int := ((Nat.gcd b.toNat a.toNat : Nat) : Int)
theorem gcdI_bd {a b : Int} (ha : 1 ≤ a) (hb : 1 ≤ b) : 1 ≤ gcdI a b ∧ gcdI a b ≤ a ∧ gcdI a b ≤ b := by
  unfold gcdI
  have h1 := Nat.gcd_pos_of_pos_left a.toNat (show 0 < b.toNat by omega)
  have h2 := Nat.gcd_le_left a.toNat (show 0 < b.toNat by omega)
  have h3 := Nat.gcd_le_right b.toNat (show 0 < a.toNat by omega)
  omega
theorem gcd_step (a b : Nat) (h : b ≠ 0) : Nat.gcd b a = Nat.gcd (a % b) b := by
  conv => lhs; rw [Nat.gcd_rec]

def arms1 (l : List Int) : Prop := ∀ x ∈ l, 1 ≤ x ∧ x ≤ 100000
/-- What numbers i and j have in common is left out. -/
def redStep (i j : Nat) (s : List Int × List Int) : List Int × List Int :=
  (s.1.set i (s.1.getD i 0 / gcdI (s.1.getD i 0) (s.2.getD j 0)), s.2.set j (s.2.getD j 0 / gcdI (s.1.getD i 0) (s.2.getD j 0)))
def redJ (i : Nat) : Nat → List Int × List Int → List Int × List Int
  | 0, s => s
  | j + 1, s => redStep i j (redJ i j s)
def redI (n : Nat) : Nat → List Int × List Int → List Int × List Int
  | 0, s => s
  | i + 1, s => redJ i n (redI n i s)
/-- Both lists have n numbers from 1 to 100000. -/
def RedOk (n : Nat) (s : List Int × List Int) : Prop := s.1.length = n ∧ s.2.length = n ∧ arms1 s.1 ∧ arms1 s.2
theorem arms_set {l : List Int} {i : Nat} {x : Int} (h : arms1 l) (hx : 1 ≤ x ∧ x ≤ 100000) : arms1 (l.set i x) := fun y hy => by
  rcases List.mem_or_eq_of_mem_set hy with hy | rfl
  · exact h y hy
  · exact hx
theorem arms_at {l : List Int} {i : Nat} (h : arms1 l) (hi : i < l.length) : 1 ≤ l.getD i 0 ∧ l.getD i 0 ≤ 100000 := by
  have := h _ (List.getElem_mem hi)
  simpa [hi] using this
theorem div_bd {a g : Int} (ha : 1 ≤ a) (hg : 1 ≤ g) (hga : g ≤ a) (ha2 : a ≤ 100000) : 1 ≤ a / g ∧ a / g ≤ 100000 :=
  ⟨Int.le_ediv_of_mul_le (by omega) (by omega), Int.le_trans (Int.ediv_le_self g (by omega)) ha2⟩
theorem RedOk.step {n i j : Nat} {s : List Int × List Int} (h : RedOk n s) (hi : i < n) (hj : j < n) : RedOk n (redStep i j s) := by
  obtain ⟨h1, h2, h3, h4⟩ := h
  have a1 := arms_at h3 (show i < s.1.length by omega)
  have a2 := arms_at h4 (show j < s.2.length by omega)
  obtain ⟨g1, g2, g3⟩ := gcdI_bd a1.1 a2.1
  exact ⟨by simp [redStep, h1], by simp [redStep, h2], arms_set h3 (div_bd a1.1 g1 g2 a1.2), arms_set h4 (div_bd a2.1 g1 g3 a2.2)⟩
theorem RedOk.J {n i : Nat} {s : List Int × List Int} (h : RedOk n s) (hi : i < n) : ∀ j, j ≤ n → RedOk n (redJ i j s)
  | 0, _ => h
  | j + 1, hj => (RedOk.J h hi j (by omega)).step hi (by omega)
theorem RedOk.I {n : Nat} {s : List Int × List Int} (h : RedOk n s) : ∀ i, i ≤ n → RedOk n (redI n i s)
  | 0, _ => h
  | i + 1, hi => (RedOk.I h i (by omega)).J (by omega) n (Nat.le_refl _)

/-- The product of the first k numbers. -/
def pr (l : List Int) : Nat → Int
  | 0 => 1
  | k + 1 => pr l k * l.getD k 0
theorem pr_pos {l : List Int} (h : arms1 l) : ∀ k, k ≤ l.length → 1 ≤ pr l k
  | 0, _ => Int.le_refl _
  | k + 1, hk => by
    have h1 := pr_pos h k (by omega)
    have h2 := (arms_at h (show k < l.length by omega)).1
    have := Int.mul_le_mul h1 h2 (by omega) (by omega)
    show 1 ≤ pr l k * l.getD k 0
    omega
theorem pr_step {l : List Int} (h : arms1 l) {k : Nat} (hk : k < l.length) : pr l k ≤ pr l (k + 1) := by
  have h1 := pr_pos h k (by omega)
  have h2 := (arms_at h hk).1
  have := Int.mul_le_mul_of_nonneg_left h2 (show 0 ≤ pr l k by omega)
  show pr l k ≤ pr l k * l.getD k 0
  omega
theorem pr_mono {l : List Int} (h : arms1 l) (k : Nat) : ∀ m, k + m ≤ l.length → pr l k ≤ pr l (k + m)
  | 0, _ => Int.le_refl _
  | m + 1, hm => Int.le_trans (pr_mono h k m (by omega)) (pr_step h (by omega))
theorem pr_le {l : List Int} (h : arms1 l) {k : Nat} (hk : k ≤ l.length) : pr l k ≤ pr l l.length := by
  have := pr_mono h k (l.length - k) (by omega)
  rwa [show k + (l.length - k) = l.length by omega] at this
theorem pr_bd {l : List Int} (h : arms1 l) {k : Nat} (hk : k < l.length) (hM : pr l k ≤ 1000000000000) : 1 ≤ pr l k * l.getD k 0 ∧ pr l k * l.getD k 0 ≤ 100000000000000000 := by
  have h1 := pr_pos h k (by omega)
  have h2 := arms_at h hk
  have h3 := Int.mul_le_mul h1 h2.1 (by omega) (by omega)
  have h4 := Int.mul_le_mul hM h2.2 (by omega) (by omega)
  omega

def outsOf (x : ActD) : List Int := x.levs.map Lev.out
def insOf (x : ActD) : List Int := x.levs.map Lev.inn
def redOf (x : ActD) : List Int × List Int := redI x.levs.length x.levs.length (outsOf x, insOf x)
def rTop (x : ActD) : Int := pr (redOf x).1 x.levs.length
def rBot (x : ActD) : Int := pr (redOf x).2 x.levs.length
def rFit (x : ActD) : Prop := rTop x ≤ 1000000000000 ∧ rBot x ≤ 1000000000000
instance (x : ActD) : Decidable (rFit x) := by unfold rFit; infer_instance
def raT (x : ActD) : Int := if ActOk x then if rFit x then rTop x else 0 else 0
def raB (x : ActD) : Int := if ActOk x then if rFit x then rBot x else 0 else 0
def raC (x : ActD) : Int := if ActOk x then if rFit x then 0 else 6 else 1
theorem ra_no {x : ActD} (h : ¬ ActOk x) : raT x = 0 ∧ raB x = 0 ∧ raC x = 1 := ⟨if_neg h, if_neg h, if_neg h⟩
theorem ra_big {x : ActD} (h : ActOk x) (g : ¬ rFit x) : raT x = 0 ∧ raB x = 0 ∧ raC x = 6 := by unfold raT raB raC; rw [if_pos h, if_pos h, if_pos h, if_neg g, if_neg g, if_neg g]; exact ⟨rfl, rfl, rfl⟩
theorem ra_yes {x : ActD} (h : ActOk x) (g : rFit x) : raT x = rTop x ∧ raB x = rBot x ∧ raC x = 0 := by unfold raT raB raC; rw [if_pos h, if_pos h, if_pos h, if_pos g, if_pos g, if_pos g]; exact ⟨rfl, rfl, rfl⟩
theorem red_start {x : ActD} (h : ActOk x) : RedOk x.levs.length (outsOf x, insOf x) := by
  refine ⟨by simp [outsOf], by simp [insOf], fun y hy => ?_, fun y hy => ?_⟩
  · obtain ⟨l, hl, rfl⟩ := List.mem_map.1 hy
    exact (h.arms l hl).2
  · obtain ⟨l, hl, rfl⟩ := List.mem_map.1 hy
    exact (h.arms l hl).1
theorem red_ok {x : ActD} (h : ActOk x) : RedOk x.levs.length (redOf x) := (red_start h).I _ (Nat.le_refl _)

set_option maxHeartbeats 400000 in
theorem gcd_any (a b : Int) (w : World) (ha : 1 ≤ a) (hb : 1 ≤ b) (ha2 : a ≤ 100000) (hb2 : b ≤ 100000) :
    Calls Tryd.prog 44 #[.int .i64 a, .int .i64 b] w fun e w' => e = .returned (.int .i64 (gcdI a b)) ∧ Q w w' := by
  go_enter Tryd.func44, Tryd.ntmps44
  go_wp2_with fail
  go_loopw [0, 1] (fun x y wr => ∃ (m n : Nat), x = .int .i64 (m : Int) ∧ y = .int .i64 (n : Int) ∧ m ≤ 100000 ∧ n ≤ 100000 ∧ ((Nat.gcd n m : Nat) : Int) = gcdI a b ∧ Q w wr) (fun _ y _ => (intOf y).toNat)
  case atStart => exact ⟨a.toNat, b.toNat, by rw [Int.toNat_of_nonneg (by omega)], by rw [Int.toNat_of_nonneg (by omega)], by omega, by omega, rfl, Q.refl _⟩
  case round =>
    obtain ⟨m, n, rfl, rfl, hm, hn, hg, hq⟩ := hrel
    have HG := Lib.hid hg; clear hg
    by_cases h0 : n = 0
    · subst h0
      have HX := Lib.hid (show (m : Int) = gcdI a b by rw [← HG.out, Nat.gcd_zero_left])
      go_wp2
      go_ret
      exact ⟨ret_int HX.out, hq⟩
    · have d1 : ((n : Int) != 0) = true := by simp; omega
      have n1 : ¬ (n : Int) = 0 := by omega
      have hr := Nat.mod_lt m (show n > 0 by omega)
      have hr2 := Nat.mod_le m n
      have w1 : IntKind.i64.wrap ((m : Int).tmod (n : Int)) = ((m % n : Nat) : Int) := by
        rw [Int.tmod_eq_emod_of_nonneg (by omega), ← Int.natCast_emod]; exact IntWalk.i64_in _ (by omega)
      have w2 : IntKind.i64.wrap ((m : Int) % (n : Int)) = ((m % n : Nat) : Int) := by
        rw [← Int.natCast_emod]; exact IntWalk.i64_in _ (by omega)
      have HX := Lib.hid (show ((Nat.gcd (m % n) n : Nat) : Int) = gcdI a b by rw [← HG.out, gcd_step m n h0])
      have HL := Lib.hid hr
      clear hr hr2
      go_wp2
      go_quiet (fail)
      go_wp2
      go_roundw
      case rel => exact ⟨n, m % n, rfl, rfl, by omega, by have := HL.out; omega, HX.out, hq.drewN _⟩
      case measure => have := HL.out; simp [intOf] <;> omega

set_option maxHeartbeats 400000 in
theorem productOf_any (v : Value) (l : List Int) (w : World) (h : Ints w v l) (ha : arms1 l) (fit : Bool) (o : Int) (hf : fit = decide (pr l l.length ≤ 1000000000000)) (ho : o = if fit = true then pr l l.length else 0) :
    Calls Tryd.prog 45 #[v] w fun e w' => e = .returned (.tuple #[.int .i64 o, .bool fit]) ∧ Q w w' := by
  obtain ⟨a, ca, rfl, hca, hcm, _⟩ := id h
  have hm : l.length ≤ maxLen := by omega
  clear hca hcm
  unfold maxLen at hm
  have HA := Lib.hid ha; have HF := Lib.hid hf; have HO := Lib.hid ho; clear ha hf ho
  go_enter Tryd.func45, Tryd.ntmps45
  go_wp2_with fail
  go_loopw [4, 9, 6] (fun p i _ wr => ∃ k : Nat, k ≤ l.length ∧ i = .int .i64 (k : Int) ∧ p = .int .i64 (pr l k) ∧ pr l k ≤ 1000000000000 ∧ Q w wr) (fun _ i _ _ => l.length - (intOf i).toNat)
  case atStart => exact ⟨0, Nat.zero_le _, by go_num, rfl, by unfold pr; omega, Q.refl _⟩
  case round =>
    obtain ⟨k, hk, rfl, rfl, hM, hq⟩ := hrel
    by_cases hlt : k < l.length
    · obtain ⟨b1, o1, rfl, c1⟩ := (h.q hq).cells (by simp <;> omega)
      have d1 : wr.cell? ⟨b1, o1 + k, none⟩ = some (.int .i64 l[k]) := c1 k _ (by simp [hlt])
      obtain ⟨m1, m2⟩ := pr_bd HA.out hlt hM
      have e : l.getD k 0 = l[k] := by simp [hlt]
      rw [e] at m1 m2
      have w1 : IntKind.i64.wrap (pr l k * l[k]) = pr l k * l[k] := IntWalk.i64_in _ (by omega)
      have HS := Lib.hid (show pr l (k + 1) = pr l k * l[k] by rw [← e]; rfl)
      clear c1 e m1 m2
      by_cases g : 1000000000000 < pr l k * l[k]
      · have d2 : decide (1000000000000 < pr l k * l[k]) = true := by simpa using g
        have HX := Lib.hid (show fit = false by
          rw [HF.out]
          have := pr_le HA.out (k := k + 1) (by omega)
          rw [HS.out] at this
          simp; omega)
        go_wp2
        go_ret2
        exact ⟨by rw [HO.out, HX.out]; rfl, hq⟩
      · have d2 : decide (1000000000000 < pr l k * l[k]) = false := by simpa using g
        go_wp2
        go_roundw
        case rel => exact ⟨k + 1, by omega, by go_num, by rw [HS.out], by rw [HS.out]; omega, hq⟩
        case measure => simp [intOf] <;> omega
    · obtain rfl : k = l.length := by omega
      have HX := Lib.hid (show fit = true by rw [HF.out]; simpa using hM)
      go_wp2
      go_ret2
      exact ⟨by rw [HO.out, HX.out]; rfl, hq⟩

/-- Two rows of the call's own, apart, that hold n numbers each. -/
structure Two (w : World) (B : Nat) (v1 v2 : Value) (n : Nat) (s : List Int × List Int) : Prop where
  len1 : s.1.length = n
  len2 : s.2.length = n
  r1 : w.ownsRow B 2 1 v1 n (s.1.map (Value.int .i64))
  r2 : w.ownsRow B 2 1 v2 n (s.2.map (Value.int .i64))
  ap : Apt v1 v2
theorem Two.mono {w w' : World} {B n : Nat} {v1 v2 : Value} {s : List Int × List Int} (h : Two w B v1 v2 n s) (hb : Below w.heap.size w w') : Two w' B v1 v2 n s := ⟨h.len1, h.len2, owns_mono h.r1 hb, owns_mono h.r2 hb, h.ap⟩
theorem Two.at {w : World} {B n c1 c2 i j : Nat} {a1 a2 : Option Addr} {s : List Int × List Int} (h : Two w B (.slice a1 n c1) (.slice a2 n c2) n s) (hi : i < n) (hj : j < n) :
    ∃ g1 g2, a1 = some ⟨g1, 0, none⟩ ∧ a2 = some ⟨g2, 0, none⟩ ∧ g1 ≠ g2 ∧ B ≤ g1 ∧ B ≤ g2 ∧ g1 < w.heap.size ∧ g2 < w.heap.size ∧ w.cell? ⟨g1, i, none⟩ = some (.int .i64 (s.1.getD i 0)) ∧ w.cell? ⟨g2, j, none⟩ = some (.int .i64 (s.2.getD j 0)) ∧
      w.frozen? ⟨g1, i, none⟩ = false ∧ w.frozen? ⟨g2, j, none⟩ = false ∧ ∀ (m : Nat) (x y : Int), Two (((w.drewN m).setCell ⟨g1, i, none⟩ (.int .i64 x)).setCell ⟨g2, j, none⟩ (.int .i64 y)) B (.slice (some ⟨g1, 0, none⟩) n c1) (.slice (some ⟨g2, 0, none⟩) n c2) n (s.1.set i x, s.2.set j y) := by
  obtain ⟨l1, l2, r1, r2, ap⟩ := h
  obtain ⟨g1, rfl⟩ : ∃ g, a1 = some ⟨g, 0, none⟩ := by
    rcases r1.2 with ⟨e, h0⟩ | ⟨g, cap, cur, e, _⟩
    · omega
    · simp only [Value.slice.injEq] at e; exact ⟨g, e.1⟩
  obtain ⟨g2, rfl⟩ : ∃ g, a2 = some ⟨g, 0, none⟩ := by
    rcases r2.2 with ⟨e, h0⟩ | ⟨g, cap, cur, e, _⟩
    · omega
    · simp only [Value.slice.injEq] at e; exact ⟨g, e.1⟩
  have hne : g1 ≠ g2 := by
    rcases ap with h | h | h
    · simp [Value.ownBlock] at h
    · simp [Value.ownBlock] at h
    · exact fun e => h (by simp [Value.ownBlock, e])
  refine ⟨g1, g2, rfl, rfl, hne, (r1.lt g1 rfl).1, (r2.lt g2 rfl).1, (r1.lt g1 rfl).2, (r2.lt g2 rfl).2, ?_, ?_, r1.frozenAt i, r2.frozenAt j, fun m x y => ?_⟩
  · rw [r1.cellAt _ (by first | omega | (simp; omega))]; simp [show i < s.1.length by omega]
  · rw [r2.cellAt _ (by first | omega | (simp; omega))]; simp [show j < s.2.length by omega]
  · have s1 := (owns_mono r1 (Below.drawN m)).stored i (.int .i64 x)
    have k2 := World.ownsRow.kept (owns_mono r2 (Below.drawN m)) s1.2 (.inr (by simp only [Value.ownBlock]; intro e; exact hne (Option.some.inj e).symm))
    have s2 := k2.stored j (.int .i64 y)
    have k1 := World.ownsRow.kept s1.1 s2.2 (.inr (by simp only [Value.ownBlock]; intro e; exact hne (Option.some.inj e)))
    exact ⟨by simp [l1], by simp [l2], by rw [List.map_set]; exact k1, by rw [List.map_set]; exact s2.1, ap⟩

end Go.Proofs.YtijhlllajddlpaaDoor
