import Derived.Test.YtgdfecnpkjnhnaaGreatDoorFtZ8
import Derived.Test.YtgdfecnpkjnhnaaGreatDoorFtZ1
import Derived.Lib.SlicesCompact
import Derived.Lib.RowBridge
import Derived.Test.YtgdfecnpkjnhnaaGreatDoorShelf
import Derived.Test.YtgdfecnpkjnhnaaGreatDoorChecked
import Derived.Sort.OwnSortedInts
import Derived.Lib.OwnBridge
import Derived.Deep.QuietTactic
import Derived.BigQuiet
/- Contracts of MostAtOnce of both packages. -/
set_option linter.unusedSimpArgs false
set_option linter.unnecessarySimpa false
set_option linter.unusedVariables false
namespace Go.Proofs.YtgdfecnpkjnhnaaGreatDoor
open Go.RowKit

def startAt (xs : List Ton) (k : Nat) : Int := (xs[k]?.map Ton.start).getD 0
theorem startAt_eq {xs : List Ton} {k : Nat} (h : k < xs.length) : startAt xs k = xs[k].start := by simp [startAt, h]
/-- How many of the first k tones, from the last one back, start with it. -/
def runAt (xs : List Ton) : Nat → Int
  | 0 => 0
  | k + 1 => (if 0 < k ∧ startAt xs k ≠ startAt xs (k - 1) then 0 else runAt xs k) + 1
def mostAt (xs : List Ton) : Nat → Int
  | 0 => 0
  | k + 1 => max (mostAt xs k) (runAt xs (k + 1))
theorem runAt_in (xs : List Ton) : ∀ k : Nat, 0 ≤ runAt xs k ∧ runAt xs k ≤ k
  | 0 => by simp [runAt]
  | k + 1 => by have := runAt_in xs k; simp only [runAt]; split <;> omega
theorem runAt_new {xs : List Ton} {k : Nat} (h : 0 < k) (hk : k < xs.length) (h2 : xs[k].start ≠ xs[k - 1].start) : runAt xs (k + 1) = 1 := by
  simp only [runAt]; rw [if_pos ⟨h, by rw [startAt_eq hk, startAt_eq (by omega)]; exact h2⟩]; rfl
theorem runAt_old {xs : List Ton} {k : Nat} (h : 0 < k) (hk : k < xs.length) (h2 : xs[k].start = xs[k - 1].start) : runAt xs (k + 1) = runAt xs k + 1 := by
  simp only [runAt]; rw [if_neg (fun hh => hh.2 (by rw [startAt_eq hk, startAt_eq (by omega)]; exact h2))]
theorem mostAt_step (xs : List Ton) (k : Nat) : mostAt xs (k + 1) = max (mostAt xs k) (runAt xs (k + 1)) := rfl
noncomputable def mostV (x : TunD) : Int := if validTunB x then mostAt x.tones x.tones.length else 0
set_option maxHeartbeats 2000000 in
theorem implMostAtOnce_any (v : Value) (x : TunD) (w : World) (h : RdTun w v x) (ok : x.ok) (_ : x.tones.length ≤ 1048576) :
    Calls Tryz.prog 16 #[v] w fun e w' => e = .returned (.tuple #[.int .i64 (mostV x), .int .i64 (tuneEndC x)]) ∧ Below w.heap.size w w' := by
  obtain ⟨lv, rfl, hlv⟩ := h
  obtain ⟨a, ca, rfl, hca, hcm, _⟩ := id hlv
  have hm : x.tones.length ≤ maxLen := by omega
  clear hca hcm
  unfold maxLen at hm
  unfold mostV tuneEndC
  by_cases g : TunOk x
  · have g' := validTunB_iff.2 g
    clear g
    rw [g']
    go_enter Tryz.func16, Tryz.ntmps16
    go_wp2_with fail
    refine (implValidTun_any _ _ x _ ⟨rfl, hlv.mono (by (repeat (first | with_reducible exact Below.refl _ _ | with_reducible exact hbw | (with_reducible refine Below.setCell ?_ ?_ _; rotate_left; · first | exact Nat.le_refl _ | omega | (simp; done) | (simp; omega)) | (with_reducible refine Below.alloc ?_ ?_ _; rotate_left; · first | exact Nat.le_refl _ | omega | (simp; done) | (simp; omega)) | with_reducible refine below_drewN ?_ _ | with_reducible refine Below.drew ?_)))⟩ ok.1).mono ?_
    rw [g']
    rintro e w1 ⟨rfl, hb⟩
    have hbw : Below w.heap.size w w1 := Below.trans (by (repeat (first | with_reducible exact Below.refl _ _ | with_reducible exact hbw | (with_reducible refine Below.setCell ?_ ?_ _; rotate_left; · first | exact Nat.le_refl _ | omega | (simp; done) | (simp; omega)) | (with_reducible refine Below.alloc ?_ ?_ _; rotate_left; · first | exact Nat.le_refl _ | omega | (simp; done) | (simp; omega)) | with_reducible refine below_drewN ?_ _ | with_reducible refine Below.drew ?_))) (hb.mono (by simp <;> omega))
    have y0 : w1.cell? ⟨w.heap.size, 0, none⟩ = some (.string x.name) := cellB hb (by simp [go_sem])
    have y1 : w1.cell? ⟨w.heap.size, 1, none⟩ = some (.slice a x.tones.length ca) := cellB hb (by simp [go_sem])
    have hlv := hlv.mono hbw
    clear hb
    go_wp2_with fail
    go_loopw [4, 5, 14, 6, 7] (fun m r i _ _ wr => ∃ k : Nat, k ≤ x.tones.length ∧ i = .int .i64 k ∧ m = .int .i64 (mostAt x.tones k) ∧ r = .int .i64 (runAt x.tones k) ∧ Below w1.heap.size w1 wr) (fun _ _ i _ _ _ => x.tones.length - (intOf i).toNat)
    case atStart => exact ⟨0, Nat.zero_le _, rfl, rfl, rfl, by (repeat (first | with_reducible exact Below.refl _ _ | with_reducible exact hbw | (with_reducible refine Below.setCell ?_ ?_ _; rotate_left; · first | exact Nat.le_refl _ | omega | (simp; done) | (simp; omega)) | (with_reducible refine Below.alloc ?_ ?_ _; rotate_left; · first | exact Nat.le_refl _ | omega | (simp; done) | (simp; omega)) | with_reducible refine below_drewN ?_ _ | with_reducible refine Below.drew ?_))⟩
    case round =>
      obtain ⟨k, hk, rfl, rfl, rfl, hq⟩ := hrel
      have u0 := cellB hq y0
      have u1 := cellB hq y1
      have hs := World.block_lt_of_cell? _ _ u0
      simp only at hs
      by_cases hlt : k < x.tones.length
      · obtain ⟨b1, o1, rfl, hT⟩ := TonIn.of (hlv.mono hq) hlt
        obtain ⟨lB, d0, d1, d2⟩ := hT
        have l1 : b1 < wr.heap.size + 1 := by omega
        have l2 : w.heap.size < wr.heap.size + 1 := by omega
        have w1' : IntKind.i64.wrap (runAt x.tones k + 1) = runAt x.tones k + 1 := IntWalk.i64_in _ (by have := runAt_in x.tones k; omega)
        by_cases h0 : 0 < k
        · have hk1 : k - 1 < x.tones.length := by omega
          obtain ⟨b2, o2, e2, hT2⟩ := TonIn.of (hlv.mono hq) hk1
          simp only [Option.some.injEq, Addr.mk.injEq, and_true] at e2
          obtain ⟨rfl, rfl⟩ := e2
          obtain ⟨lB2, f0, f1, f2⟩ := hT2
          have z0 : decide (0 < (k : Int)) = true := by simpa using h0
          have z1 : ((k : Int) - 1).toNat = k - 1 := by omega
          have w2' : IntKind.i64.wrap ((k : Int) - 1) = (k : Int) - 1 := IntWalk.i64_in _ (by omega)
          have w3' : (1 : Int) ≤ (k : Int) := by omega
          have w4' : (k : Int) - 1 < (x.tones.length : Int) := by omega
          by_cases g2 : x.tones[k].start = x.tones[k - 1].start
          · have G := Lib.hid (runAt_old h0 hlt g2)
            have q2 : (x.tones[k].start == x.tones[k - 1].start) = true := by simpa using g2
            have q3 : (x.tones[k].start != x.tones[k - 1].start) = false := by simpa using g2
            clear g2
            go_wp2_with fail
            refine wp_region_ord [(0, true), (1, true), (2, true), (3, true), (4, true), (5, true), (6, true), (7, true), (8, true), (9, true), (10, true), (11, true), (12, true), (13, true)] (none) (by kernel_rfl) (by kernel_rfl) ?_
            (repeat (with_reducible refine wpOrd_soft (fun K hK => ?_); simp only [List.getElem?_toArray, List.getElem?_cons_zero, List.getElem?_cons_succ]; first | (go_simp; refine hK _ ?_) | (simp only [undef]; go_simp; refine hK _ ?_); clear hK K))
            (with_reducible refine wpOrd_nil ?_); refine NoPanic.normal ?_
            clear w2'
            go_wp2_with fail
            clear w1'
            go_wp2
            go_roundw
            case rel => exact ⟨k + 1, by omega, by go_num, by rw [mostAt_step, G.out] <;> congr 1 <;> split <;> omega, by rw [G.out], hq.trans (Below.mono (B := wr.heap.size) (by (repeat (first | with_reducible exact Below.refl _ _ | with_reducible exact hbw | (with_reducible refine Below.setCell ?_ ?_ _; rotate_left; · first | exact Nat.le_refl _ | omega | (simp; done) | (simp; omega)) | (with_reducible refine Below.alloc ?_ ?_ _; rotate_left; · first | exact Nat.le_refl _ | omega | (simp; done) | (simp; omega)) | with_reducible refine below_drewN ?_ _ | with_reducible refine Below.drew ?_))) hq.size)⟩
            case measure => simp [intOf]; omega
          · have G := Lib.hid (runAt_new h0 hlt g2)
            have q2 : (x.tones[k].start == x.tones[k - 1].start) = false := by simpa using g2
            have q3 : (x.tones[k].start != x.tones[k - 1].start) = true := by simpa using g2
            clear g2
            go_wp2_with fail
            refine wp_region_ord [(0, true), (1, true), (2, true), (3, true), (4, true), (5, true), (6, true), (7, true), (8, true), (9, true), (10, true), (11, true), (12, true), (13, true)] (none) (by kernel_rfl) (by kernel_rfl) ?_
            (repeat (with_reducible refine wpOrd_soft (fun K hK => ?_); simp only [List.getElem?_toArray, List.getElem?_cons_zero, List.getElem?_cons_succ]; first | (go_simp; refine hK _ ?_) | (simp only [undef]; go_simp; refine hK _ ?_); clear hK K))
            (with_reducible refine wpOrd_nil ?_); refine NoPanic.normal ?_
            clear w2'
            go_wp2_with fail
            go_wp2
            go_roundw
            case rel => exact ⟨k + 1, by omega, by go_num, by rw [mostAt_step, G.out] <;> congr 1 <;> split <;> omega, by rw [G.out], hq.trans (Below.mono (B := wr.heap.size) (by (repeat (first | with_reducible exact Below.refl _ _ | with_reducible exact hbw | (with_reducible refine Below.setCell ?_ ?_ _; rotate_left; · first | exact Nat.le_refl _ | omega | (simp; done) | (simp; omega)) | (with_reducible refine Below.alloc ?_ ?_ _; rotate_left; · first | exact Nat.le_refl _ | omega | (simp; done) | (simp; omega)) | with_reducible refine below_drewN ?_ _ | with_reducible refine Below.drew ?_))) hq.size)⟩
            case measure => simp [intOf]; omega
        · have G := Lib.hid (show runAt x.tones (k + 1) = runAt x.tones k + 1 by simp [runAt, h0])
          have z0 : decide (0 < (k : Int)) = false := by simpa using h0
          go_wp2_with fail
          refine wp_region_ord [(0, true), (1, true), (2, true), (3, true), (4, true), (5, true), (6, true), (7, true), (8, true), (9, true), (10, true), (11, true), (12, true), (13, true)] (none) (by kernel_rfl) (by kernel_rfl) ?_
          (repeat (with_reducible refine wpOrd_soft (fun K hK => ?_); simp only [List.getElem?_toArray, List.getElem?_cons_zero, List.getElem?_cons_succ]; first | (go_simp; refine hK _ ?_) | (simp only [undef]; go_simp; refine hK _ ?_); clear hK K))
          (with_reducible refine wpOrd_nil ?_); refine NoPanic.normal ?_
          go_wp2_with fail
          clear w1'
          go_wp2
          go_roundw
          case rel => exact ⟨k + 1, by omega, by go_num, by rw [mostAt_step, G.out] <;> congr 1 <;> split <;> omega, by rw [G.out], hq.trans (Below.mono (B := wr.heap.size) (by (repeat (first | with_reducible exact Below.refl _ _ | with_reducible exact hbw | (with_reducible refine Below.setCell ?_ ?_ _; rotate_left; · first | exact Nat.le_refl _ | omega | (simp; done) | (simp; omega)) | (with_reducible refine Below.alloc ?_ ?_ _; rotate_left; · first | exact Nat.le_refl _ | omega | (simp; done) | (simp; omega)) | with_reducible refine below_drewN ?_ _ | with_reducible refine Below.drew ?_))) hq.size)⟩
          case measure => simp [intOf]; omega
      · obtain rfl : k = x.tones.length := by omega
        go_wp2
        go_ret2
        exact ⟨rfl, hbw.trans (hq.mono hbw.size)⟩
  · have g' : validTunB x = false := by rw [← Bool.not_eq_true, validTunB_iff]; exact g
    rw [g']
    clear g
    go_enter Tryz.func16, Tryz.ntmps16
    go_wp2_with fail
    refine (implValidTun_any _ _ x _ ⟨rfl, hlv.mono (by (repeat (first | with_reducible exact Below.refl _ _ | with_reducible exact hbw | (with_reducible refine Below.setCell ?_ ?_ _; rotate_left; · first | exact Nat.le_refl _ | omega | (simp; done) | (simp; omega)) | (with_reducible refine Below.alloc ?_ ?_ _; rotate_left; · first | exact Nat.le_refl _ | omega | (simp; done) | (simp; omega)) | with_reducible refine below_drewN ?_ _ | with_reducible refine Below.drew ?_)))⟩ ok.1).mono ?_
    rw [g']
    rintro e w1 ⟨rfl, hb⟩
    have hbw : Below w.heap.size w w1 := Below.trans (by (repeat (first | with_reducible exact Below.refl _ _ | with_reducible exact hbw | (with_reducible refine Below.setCell ?_ ?_ _; rotate_left; · first | exact Nat.le_refl _ | omega | (simp; done) | (simp; omega)) | (with_reducible refine Below.alloc ?_ ?_ _; rotate_left; · first | exact Nat.le_refl _ | omega | (simp; done) | (simp; omega)) | with_reducible refine below_drewN ?_ _ | with_reducible refine Below.drew ?_))) (hb.mono (by simp <;> omega))
    go_wp2
    go_ret2
    exact ⟨rfl, hbw⟩

end Go.Proofs.YtgdfecnpkjnhnaaGreatDoor
/- Numbers put in their places, sorted, made unique: plain. -/
set_option linter.unusedSimpArgs false
set_option linter.unnecessarySimpa false
set_option linter.unusedVariables false
namespace Go.Proofs.YtgdfecnpkjnhnaaGreatDoor
open Go.RowKit

/-- A number put in its place among rising ones, once. -/
def putI : List Int → Int → List Int
  | [], n => [n]
  | x :: r, n => if n ≤ x then (if n < x then n :: x :: r else x :: r) else x :: putI r n
theorem putI_nil (n : Int) : putI [] n = [n] := rfl
theorem putI_drop {xs : List Int} {k : Nat} (h : k < xs.length) (n : Int) : putI (xs.drop k) n = if n ≤ xs[k] then (if n < xs[k] then n :: xs[k] :: xs.drop (k + 1) else xs[k] :: xs.drop (k + 1)) else xs[k] :: putI (xs.drop (k + 1)) n := by
  rw [List.drop_eq_getElem_cons h]; rfl
theorem putI_len : ∀ (xs : List Int) (n : Int), (putI xs n).length ≤ xs.length + 1
  | [], _ => by simp [putI]
  | x :: r, n => by
    have := putI_len r n
    unfold putI; split
    · split <;> simp
    · simp; omega
theorem mem_putI : ∀ (xs : List Int) (n x : Int), x ∈ putI xs n ↔ x = n ∨ x ∈ xs
  | [], n, x => by simp [putI]
  | y :: r, n, x => by
    unfold putI
    split
    · split
      · simp
      · rename_i h1 h2
        have e : n = y := by omega
        subst e; simp
    · simp only [List.mem_cons, mem_putI r n x]
      constructor
      · rintro (h | h | h) <;> simp [h]
      · rintro (h | h | h) <;> simp [h]
def Strict (xs : List Int) : Prop := xs.Pairwise (· < ·)
theorem putI_strict : ∀ (xs : List Int) (n : Int), Strict xs → Strict (putI xs n)
  | [], n, _ => by simp [putI, Strict]
  | y :: r, n, h => by
    have h' := List.pairwise_cons.1 h
    unfold putI
    split
    · split
      · rename_i h1 h2
        refine List.pairwise_cons.2 ⟨fun x hx => ?_, h⟩
        rcases List.mem_cons.1 hx with rfl | hx
        · exact h2
        · have := h'.1 x hx; omega
      · exact h
    · rename_i h1
      refine List.pairwise_cons.2 ⟨fun x hx => ?_, putI_strict r n h'.2⟩
      rcases (mem_putI r n x).1 hx with rfl | hx
      · omega
      · exact h'.1 x hx

theorem strict_ext : ∀ (l1 l2 : List Int), Strict l1 → Strict l2 → (∀ x, x ∈ l1 ↔ x ∈ l2) → l1 = l2
  | [], [], _, _, _ => rfl
  | [], b :: l2, _, _, h => by have := (h b).2 (by simp); simp at this
  | a :: l1, [], _, _, h => by have := (h a).1 (by simp); simp at this
  | a :: l1, b :: l2, h1, h2, h => by
    have g1 := List.pairwise_cons.1 h1
    have g2 := List.pairwise_cons.1 h2
    have e : a = b := by
      rcases List.mem_cons.1 ((h a).1 (by simp)) with e | e
      · exact e
      · rcases List.mem_cons.1 ((h b).2 (by simp)) with e' | e'
        · exact e'.symm
        · have := g1.1 b e'; have := g2.1 a e; omega
    subst e
    rw [strict_ext l1 l2 g1.2 g2.2 fun x => ?_]
    constructor
    · intro hx
      rcases List.mem_cons.1 ((h x).1 (by simp [hx])) with e | e
      · have := g1.1 x hx; omega
      · exact e
    · intro hx
      rcases List.mem_cons.1 ((h x).2 (by simp [hx])) with e | e
      · have := g2.1 x hx; omega
      · exact e

def sortI (zs : List Int) : List Int := zs.mergeSort fun x y => decide (x ≤ y)
theorem sortI_len (zs : List Int) : (sortI zs).length = zs.length := List.length_mergeSort zs
theorem sortI_mem (zs : List Int) (x : Int) : x ∈ sortI zs ↔ x ∈ zs := by simp [sortI]
theorem sortI_perm (zs : List Int) : (sortI zs).Perm zs := List.mergeSort_perm zs _
theorem sortI_le (zs : List Int) : (sortI zs).Pairwise (· ≤ ·) := by
  have := List.pairwise_mergeSort (le := fun x y : Int => decide (x ≤ y)) (by intro a b c h1 h2; simp at *; omega) (by intro a b; simp; omega) zs
  exact this.imp (by intro a b h; simpa using h)

theorem compactUpTo_inv (zs : List Int) (hs : zs.Pairwise (· ≤ ·)) : ∀ m, m ≤ zs.length →
    Strict (Lib.compactUpTo zs.toArray m) ∧ (∀ x ∈ Lib.compactUpTo zs.toArray m, ∃ j, j < m ∧ x = zs.getD j 0) ∧ (∀ j, j < m → zs.getD j 0 ∈ Lib.compactUpTo zs.toArray m)
  | 0, _ => by simp [Lib.compactUpTo, Strict]
  | m + 1, hm => by
    obtain ⟨i1, i2, i3⟩ := compactUpTo_inv zs hs m (by omega)
    have gd : ∀ j, j < zs.length → zs.toArray[j]! = zs.getD j 0 := fun j hj => by simp [hj]
    have mono : ∀ i j, i ≤ j → j < zs.length → zs.getD i 0 ≤ zs.getD j 0 := fun i j hij hj => by
      rcases Nat.eq_or_lt_of_le hij with rfl | hlt
      · exact Int.le_refl _
      · have := (List.pairwise_iff_getElem.1 hs) i j (by omega) hj hlt
        simpa [show i < zs.length by omega, hj] using this
    rw [Lib.compactUpTo_succ]
    by_cases hk : Lib.keeps zs.toArray m = true
    · rw [if_pos hk, gd m (by omega)]
      refine ⟨?_, ?_, ?_⟩
      · refine List.pairwise_append.2 ⟨i1, by simp, fun x hx y hy => ?_⟩
        simp only [List.mem_singleton] at hy
        subst hy
        obtain ⟨j, hj, rfl⟩ := i2 x hx
        have h1 : zs.toArray[m]! ≠ zs.toArray[m - 1]! := by
          simp only [Lib.keeps, decide_eq_true_eq] at hk
          rcases hk with h | h
          · omega
          · exact h
        rw [gd m (by omega), gd (m - 1) (by omega)] at h1
        have h2 := mono j (m - 1) (by omega) (by omega)
        have h3 := mono (m - 1) m (by omega) (by omega)
        omega
      · intro x hx
        rcases List.mem_append.1 hx with hx | hx
        · obtain ⟨j, hj, e⟩ := i2 x hx; exact ⟨j, by omega, e⟩
        · exact ⟨m, by omega, by simpa using hx⟩
      · intro j hj
        by_cases e : j = m
        · subst e; simp
        · exact List.mem_append_left _ (i3 j (by omega))
    · rw [if_neg hk, List.append_nil]
      refine ⟨i1, fun x hx => by obtain ⟨j, hj, e⟩ := i2 x hx; exact ⟨j, by omega, e⟩, fun j hj => ?_⟩
      by_cases e : j = m
      · subst e
        have h1 : j ≠ 0 ∧ zs.toArray[j]! = zs.toArray[j - 1]! := by
          simp only [Lib.keeps, decide_eq_true_eq, not_or, Classical.not_not] at hk
          exact hk
        rw [gd j (by omega), gd (j - 1) (by omega)] at h1
        rw [h1.2]; exact i3 _ (by omega)
      · exact i3 j (by omega)
theorem compact_strict {zs : List Int} (hs : zs.Pairwise (· ≤ ·)) : Strict (Lib.compact zs) := (compactUpTo_inv zs hs zs.length (Nat.le_refl _)).1
theorem compact_mem {zs : List Int} (hs : zs.Pairwise (· ≤ ·)) (x : Int) : x ∈ Lib.compact zs ↔ x ∈ zs := by
  obtain ⟨_, i2, i3⟩ := compactUpTo_inv zs hs zs.length (Nat.le_refl _)
  constructor
  · intro h
    obtain ⟨j, hj, e⟩ := i2 x h
    rw [e]; simp [hj]
  · intro h
    obtain ⟨j, hj, e⟩ := List.getElem_of_mem h
    have := i3 j hj
    simp only [List.getD_eq_getElem?_getD, hj, List.getElem?_eq_getElem, Option.getD_some] at this
    rw [e] at this; exact this

/-- All of some numbers, in order, each once. -/
def notesOfL (ns : List Int) : List Int := ns.foldl putI []
theorem foldl_putI (ns : List Int) : ∀ acc, Strict acc → Strict (ns.foldl putI acc) ∧ ∀ x, x ∈ ns.foldl putI acc ↔ x ∈ acc ∨ x ∈ ns := by
  induction ns with
  | nil => intro acc h; exact ⟨h, by simp⟩
  | cons n r ih =>
    intro acc h
    obtain ⟨h1, h2⟩ := ih (putI acc n) (putI_strict acc n h)
    refine ⟨h1, fun x => ?_⟩
    rw [List.foldl_cons, h2, mem_putI, List.mem_cons]
    constructor
    · rintro ((h | h) | h) <;> simp [h]
    · rintro (h | h | h) <;> simp [h]
theorem notesOfL_strict (ns : List Int) : Strict (notesOfL ns) := (foldl_putI ns [] (by simp [Strict])).1
theorem notesOfL_mem (ns : List Int) (x : Int) : x ∈ notesOfL ns ↔ x ∈ ns := by have := (foldl_putI ns [] (by simp [Strict])).2 x; simpa [notesOfL] using this
theorem notesOfL_eq (ns : List Int) : Lib.compact (sortI ns) = notesOfL ns :=
  strict_ext _ _ (compact_strict (sortI_le ns)) (notesOfL_strict ns) fun x => by rw [compact_mem (sortI_le ns), sortI_mem, notesOfL_mem]
theorem foldl_putI_len (ns : List Int) : ∀ acc, (ns.foldl putI acc).length ≤ acc.length + ns.length := by
  induction ns with
  | nil => intro acc; simp
  | cons n r ih => intro acc; have := ih (putI acc n); have := putI_len acc n; simp; omega
theorem notesOfL_len (ns : List Int) : (notesOfL ns).length ≤ ns.length := by have := foldl_putI_len ns []; simpa [notesOfL] using this

end Go.Proofs.YtgdfecnpkjnhnaaGreatDoor
/- Contract of slices.Sort at []int64. -/
set_option linter.unusedSimpArgs false
set_option linter.unnecessarySimpa false
set_option linter.unusedVariables false
set_option maxRecDepth 100000
namespace Go.Proofs.YtgdfecnpkjnhnaaGreatDoor
open Go.RowKit

theorem info_int64 : (Tryz.prog.info? 2).map (fun i => (i.zero, i.size, i.bytes)) = some (some (.int .i64 0), 1, 8) := by kernel_rfl

/-- slices.Sort on a row of the call's own. -/
theorem sortInts_any (v : Value) (base : Nat) (zs : List Int) (w : World) (h : w.ownsRow base 2 1 v zs.length (zs.map (Value.int .i64))) (hs : zs.length ≤ 1000000000) :
    Calls Tryz.prog 56 #[v] w fun e w' => e = .returned (.tuple #[]) ∧ w'.ownsRow base 2 1 v zs.length ((sortI zs).map (Value.int .i64)) ∧ w.grownBy w' v.ownBlock := by
  rcases h.2 with ⟨rfl, hn⟩ | ⟨g, cap, cur, rfl, hb, hg, h1, h2, h3, h4⟩
  · have hz : zs = [] := List.eq_nil_of_length_eq_zero hn
    subst hz
    have := AnyG.slices_Sort_int_none Tryz.laysSort none 0 w
    exact this.mono fun e w' ⟨he, hw⟩ => ⟨he, by rw [hw]; exact ⟨by simpa [sortI] using h, World.grownBy.refl w _⟩⟩
  · have hH := Go.holds_of_blockI hg (by rw [Nat.mul_one] at h4; exact h4)
    have hlt := (Array.getElem?_eq_some_iff.1 hg).1
    have := AnyG.slices_Sort_int Tryz.laysSort g 0 cap zs w hH hlt (by omega)
    refine this.mono fun e w' ⟨he, n, os, hw⟩ => ⟨he, ?_, ?_⟩
    · rw [hw]; exact Go.ownsRow_sortedI (ss := zs) (ts := sortI zs) (sortI_len zs) hb hg h1 h2 h3
    · rw [hw]; exact Go.grownBy_sortedI _

end Go.Proofs.YtgdfecnpkjnhnaaGreatDoor
/- Contracts of l00Put, slices.Sort and slices.Compact at []int64. -/
set_option linter.unusedSimpArgs false
set_option linter.unnecessarySimpa false
set_option linter.unusedVariables false
set_option maxRecDepth 100000
namespace Go.Proofs.YtgdfecnpkjnhnaaGreatDoor
open Go.RowKit

theorem grown_putRow {w : World} {g n : Nat} (d : Array Int) : w.grownBy (Go.Sort.putRow (Value.int .i64) (Go.Sort.ahead w n) g 0 d) (some g) := by
  refine ⟨rfl, rfl, rfl, by simp [Go.Sort.putRow, Go.Sort.mapBlock, Go.Sort.ahead], fun k hk hne => ?_⟩
  have : g ≠ k := fun e => hne (by rw [e])
  simp [Go.Sort.putRow, Go.Sort.mapBlock, Go.Sort.ahead, Array.getElem?_modify, this]

/-- slices.Compact on a row of the call's own. -/
theorem compactInts_any (v : Value) (base n : Nat) (zs : List Int) (w : World) (hn : n = zs.length) (h : w.ownsRow base 2 1 v n (zs.map (Value.int .i64))) (hs : zs.length ≤ 1000000000) :
    Calls Tryz.prog 57 #[v] w fun e w' => ∃ v', e = .returned v' ∧ w'.ownsRow base 2 1 v' (Lib.compact zs).length ((Lib.compact zs).map (Value.int .i64)) ∧ w.grownBy w' v.ownBlock ∧ v'.ownBlock = v.ownBlock := by
  subst hn
  rcases h.2 with ⟨rfl, hn⟩ | ⟨g, cap, cur, rfl, hb, hg, h1, h2, h3, h4⟩
  · have hz : zs = [] := List.eq_nil_of_length_eq_zero hn
    subst hz
    have := Tryz.slices_Compact_int_empty none 0 w
    exact this.mono fun e w' ⟨he, hw⟩ => ⟨_, he, by rw [hw]; exact ⟨by simpa [Lib.compact, Lib.compactUpTo] using h, World.grownBy.refl w _, rfl⟩⟩
  · have hH := Go.holds_of_blockI hg (by rw [Nat.mul_one] at h4; exact h4)
    have := Tryz.slices_Compact_int g 0 cap zs w hH (by omega) h1
    have hle := Lib.compact_length_le zs
    refine this.mono fun e w' ⟨he, q, hw⟩ => ⟨_, he, ?_, ?_, rfl⟩
    · have hc := Lib.ownsRow_putRow (q := q) (k := (Lib.compact zs).length) (ys := Lib.compact zs ++ List.replicate (zs.length - (Lib.compact zs).length) 0) h (by simp; omega) (by omega)
      rw [List.take_left] at hc
      rw [hw]; exact hc
    · rw [hw]; exact grown_putRow _

end Go.Proofs.YtgdfecnpkjnhnaaGreatDoor
