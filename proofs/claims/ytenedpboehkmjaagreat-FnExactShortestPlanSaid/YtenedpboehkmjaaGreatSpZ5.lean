import Derived.Test.YtenedpboehkmjaaGreatSpZ3
import Derived.Test.YtenedpboehkmjaaGreatSpZ4
import Derived.Test.YtenedpboehkmjaaGreatSpZ1
/- Valid rings and profiles: the plain law; contracts of l05Ring, l05Joined, l05Height. -/
set_option linter.unusedSimpArgs false
set_option linter.unnecessarySimpa false
set_option linter.unusedVariables false
set_option maxRecDepth 100000
namespace Go.Proofs.YtenedpboehkmjaaGreat
open Go.RowKit

def ringOk (r : Rng) : Prop := (500 ≤ r.outer ∧ r.outer ≤ 150000) ∧ (0 ≤ r.inner ∧ r.inner ≤ r.outer - 100) ∧ (10 ≤ r.height ∧ r.height ≤ 300000)
instance (r : Rng) : Decidable (ringOk r) := by unfold ringOk; infer_instance
def joined (a b : Rng) : Prop := a.inner < b.outer ∧ b.inner < a.outer
instance (a b : Rng) : Decidable (joined a b) := by unfold joined; infer_instance
def rg (xs : List Rng) (k : Nat) : Rng := xs.getD k ⟨0, 0, 0⟩
theorem rg_at {xs : List Rng} {k : Nat} (h : k < xs.length) : rg xs k = xs[k] := by unfold rg; rw [List.getD_eq_getElem?_getD, List.getElem?_eq_getElem h]; rfl
def hgt : List Rng → Int
  | [] => 0
  | r :: rs => r.height + hgt rs
theorem hgt_append (xs ys : List Rng) : hgt (xs ++ ys) = hgt xs + hgt ys := by
  induction xs with
  | nil => simp [hgt]
  | cons x xs ih => simp [hgt, ih]; omega
theorem hgt_next {xs : List Rng} {k : Nat} (h : k < xs.length) : hgt (xs.take (k + 1)) = hgt (xs.take k) + (rg xs k).height := by
  rw [List.take_succ_eq_append_getElem h, hgt_append, rg_at h]; simp [hgt]
theorem hgt_bd {xs : List Rng} : ∀ k, k ≤ xs.length → (∀ i, i < xs.length → ringOk (rg xs i)) → 0 ≤ hgt (xs.take k) ∧ hgt (xs.take k) ≤ 300000 * (k : Int) := by
  intro k
  induction k with
  | zero => intro _ _; simp [hgt]
  | succ k ih =>
    intro hk h
    have h1 := ih (by omega) h
    have h2 := (h k (by omega)).2.2
    rw [hgt_next (by omega)]
    omega
def ringAt (xs : List Rng) (k : Nat) : Prop := ringOk (rg xs k) ∧ (k = 0 ∨ joined (rg xs (k - 1)) (rg xs k))
instance (xs : List Rng) (k : Nat) : Decidable (ringAt xs k) := by unfold ringAt; infer_instance
def prfOk (x : PrfD) : Prop := NameOk x.name ∧ (1 ≤ x.rings.length ∧ x.rings.length ≤ 32) ∧ (∀ k, k < x.rings.length → ringAt x.rings k) ∧ hgt x.rings ≤ 300000
instance (x : PrfD) : Decidable (prfOk x) := by unfold prfOk; infer_instance

structure RngIn (w : World) (q o : Nat) (r : Rng) : Prop where
  lt : q < w.heap.size
  c0 : w.cell? ⟨q, o, none⟩ = some (.int .i64 r.outer)
  c1 : w.cell? ⟨q, o + 1, none⟩ = some (.int .i64 r.inner)
  c2 : w.cell? ⟨q, o + 2, none⟩ = some (.int .i64 r.height)
theorem RngIn.mono {w w' : World} {q o : Nat} {r : Rng} (h : RngIn w q o r) (hb : Below w.heap.size w w') : RngIn w' q o r :=
  ⟨Nat.lt_of_lt_of_le h.lt hb.size, cellB hb h.c0, cellB hb h.c1, cellB hb h.c2⟩

set_option maxHeartbeats 1000000 in
theorem l05Ring_any (b : Bool) (q o : Nat) (r : Rng) (w : World) (h : RngIn w q o r) (hr : b = decide (ringOk r)) :
    Calls Tryz.prog 109 #[.pointer (some ⟨q, o, none⟩)] w fun e w' => e = .returned (.bool b) ∧ Q w w' := by
  obtain ⟨l0, c0, c1, c2⟩ := h
  obtain ⟨b1, hb1⟩ : ∃ b, b = decide (500 ≤ r.outer ∧ r.outer ≤ 150000) := ⟨_, rfl⟩
  obtain ⟨b2, hb2⟩ : ∃ b, b = decide (0 ≤ r.inner ∧ r.inner ≤ r.outer - 100) := ⟨_, rfl⟩
  obtain ⟨b3, hb3⟩ : ∃ b, b = decide (10 ≤ r.height ∧ r.height ≤ 300000) := ⟨_, rfl⟩
  have HR := Lib.hid (show b = (b1 && (b2 && b3)) by
    rw [hr, hb1, hb2, hb3, Bool.eq_iff_iff]; unfold ringOk; simp only [Bool.and_eq_true, decide_eq_true_eq]; exact ⟨of_decide_eq_true, decide_eq_true⟩)
  have H1 := Lib.hid hb1; have H2 := Lib.hid hb2; have H3 := Lib.hid hb3
  clear hb1 hb2 hb3 hr
  cases b1
  · skip
    go_enter Tryz.func109, Tryz.ntmps109
    go_wp2
    go_quiet ((go_at_call 42; first | with_reducible exact Calls.quiet_of_same (l00In_any _ r.outer 500 150000 _ H1.out) | with_reducible exact Calls.quiet_of_same (l00In_any _ r.inner 0 (r.outer - 100) _ H2.out) | with_reducible exact Calls.quiet_of_same (l00In_any _ r.height 10 300000 _ H3.out)))
    go_wp2
    go_ret
    exact ⟨by rw [HR.out]; rfl, (Q.refl _).drewN _⟩
  · have h1 := of_decide_eq_true H1.out.symm
    have w1' : IntKind.i64.wrap (r.outer - 100) = r.outer - 100 := IntWalk.i64_in _ (by omega)
    clear h1
    cases b2
    · skip
      go_enter Tryz.func109, Tryz.ntmps109
      go_wp2
      go_quiet ((go_at_call 42; first | with_reducible exact Calls.quiet_of_same (l00In_any _ r.outer 500 150000 _ H1.out) | with_reducible exact Calls.quiet_of_same (l00In_any _ r.inner 0 (r.outer - 100) _ H2.out) | with_reducible exact Calls.quiet_of_same (l00In_any _ r.height 10 300000 _ H3.out)))
      go_wp2
      go_ret
      exact ⟨by rw [HR.out]; rfl, (Q.refl _).drewN _⟩
    · cases b3
      · skip
        go_enter Tryz.func109, Tryz.ntmps109
        go_wp2
        go_quiet ((go_at_call 42; first | with_reducible exact Calls.quiet_of_same (l00In_any _ r.outer 500 150000 _ H1.out) | with_reducible exact Calls.quiet_of_same (l00In_any _ r.inner 0 (r.outer - 100) _ H2.out) | with_reducible exact Calls.quiet_of_same (l00In_any _ r.height 10 300000 _ H3.out)))
        go_wp2
        go_ret
        exact ⟨by rw [HR.out]; rfl, (Q.refl _).drewN _⟩
      · skip
        go_enter Tryz.func109, Tryz.ntmps109
        go_wp2
        go_quiet ((go_at_call 42; first | with_reducible exact Calls.quiet_of_same (l00In_any _ r.outer 500 150000 _ H1.out) | with_reducible exact Calls.quiet_of_same (l00In_any _ r.inner 0 (r.outer - 100) _ H2.out) | with_reducible exact Calls.quiet_of_same (l00In_any _ r.height 10 300000 _ H3.out)))
        go_wp2
        go_ret
        exact ⟨by rw [HR.out]; rfl, (Q.refl _).drewN _⟩

set_option maxHeartbeats 1000000 in
theorem l05Joined_any (b : Bool) (q o q2 o2 : Nat) (r s : Rng) (w : World) (h : RngIn w q o r) (h2 : RngIn w q2 o2 s) (hr : b = decide (joined r s)) :
    Calls Tryz.prog 110 #[.pointer (some ⟨q, o, none⟩), .pointer (some ⟨q2, o2, none⟩)] w fun e w' => e = .returned (.bool b) ∧ Q w w' := by
  obtain ⟨l0, c0, c1, c2⟩ := h
  obtain ⟨k0, d0, d1, d2⟩ := h2
  by_cases g1 : r.inner < s.outer
  · have e1 : decide (r.inner < s.outer) = true := decide_eq_true g1
    by_cases g2 : s.inner < r.outer
    · have e2 : decide (s.inner < r.outer) = true := decide_eq_true g2
      have HR := Lib.hid (show b = true by rw [hr]; exact decide_eq_true ⟨g1, g2⟩)
      clear hr g1 g2
      go_enter Tryz.func110, Tryz.ntmps110
      go_wp2
      go_quiet (fail)
      go_wp2
      go_ret
      exact ⟨by rw [HR.out]; rfl, (Q.refl _).drewN _⟩
    · have e2 : decide (s.inner < r.outer) = false := decide_eq_false g2
      have HR := Lib.hid (show b = false by rw [hr]; exact decide_eq_false (fun h => g2 h.2))
      clear hr g1 g2
      go_enter Tryz.func110, Tryz.ntmps110
      go_wp2
      go_quiet (fail)
      go_wp2
      go_ret
      exact ⟨by rw [HR.out]; rfl, (Q.refl _).drewN _⟩
  · have e1 : decide (r.inner < s.outer) = false := decide_eq_false g1
    have HR := Lib.hid (show b = false by rw [hr]; exact decide_eq_false (fun h => g1 h.1))
    clear hr g1
    go_enter Tryz.func110, Tryz.ntmps110
    go_wp2
    go_quiet (fail)
    go_wp2
    go_ret
    exact ⟨by rw [HR.out]; rfl, (Q.refl _).drewN _⟩

/-- A profile lies in block q from cell o on. -/
structure PrfIn (w : World) (q o : Nat) (x : PrfD) (a : Option Addr) (c : Nat) : Prop where
  lt : q < w.heap.size
  c0 : w.cell? ⟨q, o, none⟩ = some (.string x.name)
  c1 : w.cell? ⟨q, o + 1, none⟩ = some (.slice a x.rings.length c)
  r : Rngs w (.slice a x.rings.length c) x.rings
theorem PrfIn.mono {w w' : World} {q o : Nat} {x : PrfD} {a : Option Addr} {c : Nat} (h : PrfIn w q o x a c) (hb : Below w.heap.size w w') : PrfIn w' q o x a c :=
  ⟨Nat.lt_of_lt_of_le h.lt hb.size, cellB hb h.c0, cellB hb h.c1, h.r.mono hb⟩
set_option maxHeartbeats 1000000 in
theorem l05Height_any (q o : Nat) (x : PrfD) (w : World) {a : Option Addr} {c : Nat} (h : PrfIn w q o x a c) (hk : ∀ i, i < x.rings.length → ringOk (rg x.rings i)) (h32 : x.rings.length ≤ 32) :
    Calls Tryz.prog 111 #[.pointer (some ⟨q, o, none⟩)] w fun e w' => e = .returned (.int .i64 (hgt x.rings)) ∧ w' = w := by
  obtain ⟨l0, c0, c1, hr⟩ := h
  have HB := Lib.hid (fun k (h : k ≤ x.rings.length) => hgt_bd k h hk)
  have HK := Lib.hid hk
  have HRS := Lib.hid hr
  clear hk hr
  go_enter Tryz.func111, Tryz.ntmps111
  go_wp2
  go_loopw [3, 4] (fun sv iv wr => ∃ k : Nat, k ≤ x.rings.length ∧ iv = .int .i64 (k : Int) ∧ sv = .int .i64 (hgt (x.rings.take k)) ∧ wr = w) (fun _ iv _ => x.rings.length - (intOf iv).toNat)
  case atStart => exact ⟨0, Nat.zero_le _, by go_num, rfl, rfl⟩
  case round =>
    obtain ⟨k, hk, rfl, rfl, rfl⟩ := hrel
    by_cases hlt : k < x.rings.length
    · obtain ⟨b1, o1, rfl, hB, d0, d1, d2⟩ := HRS.out.at hlt
      have hg := hgt_next hlt
      rw [rg_at hlt] at hg
      obtain ⟨t, ht⟩ : ∃ t, t = hgt (x.rings.take k) := ⟨_, rfl⟩
      have hbd := HB.out k (by omega)
      have hrk := (HK.out k hlt).2.2
      rw [rg_at hlt] at hrk
      rw [← ht] at hg hbd ⊢
      have w1' : IntKind.i64.wrap (t + x.rings[k].height) = t + x.rings[k].height := IntWalk.i64_in _ (by omega)
      have HG := Lib.hid hg
      clear hg ht hrk
      go_wp2
      go_roundw
      case rel => exact ⟨k + 1, by omega, by go_num, by rw [HG.out], trivial⟩
      case measure => simp [intOf]; omega
    · obtain rfl : k = x.rings.length := by omega
      rw [List.take_length]
      go_wp2
      go_ret
      exact ⟨rfl, rfl⟩
end Go.Proofs.YtenedpboehkmjaaGreat
/- Bytes that came in, and the numbers that the laws draw from them: contracts of r8At and r8Wide. -/
set_option linter.unusedSimpArgs false
set_option linter.unnecessarySimpa false
set_option linter.unusedVariables false
set_option maxRecDepth 100000
namespace Go.Proofs.YtenedpboehkmjaaGreat
open Go.ChangeShapes Go.WideShapes Go.ChangeAt Go.RowKit

/-- v reads as the bytes bs. -/
def Byts (w : World) (v : Value) (bs : List Int) : Prop := Sl w v bs.length (bs.map (Value.int .u8))
def okByts (bs : List Int) : Prop := ∀ x ∈ bs, 0 ≤ x ∧ x ≤ 255
theorem Byts.mono {w w' : World} {v : Value} {bs : List Int} (h : Byts w v bs) (hb : Below w.heap.size w w') : Byts w' v bs := Sl.mono h hb

section
variable {H : Type} {enc : TypeId × Value → H} {W : World} {base : Nat}
theorem cells_byte : Tryz.prog.cellsOf 5 = 1 := by kernel_rfl
theorem u8_bd {n : Int} (h : (Lit.int .u8 n).wf = true) : 0 ≤ n ∧ n ≤ 255 := by simpa [Lit.wf, IntKind.min, IntKind.max, IntKind.signed, IntKind.bits] using h

/-- An argument of type []uint8. -/
theorem open_arg_bytes {v : Value} {d : DataW H} {p : List MemPlace} (hv : Value.okWide Tryz.prog W .any base 161 v) (h : DataW.Trod enc Tryz.prog W 0 (fun _ => true) true 161 v d p) :
    ∃ xs, Byts W v xs ∧ okByts xs := by
  obtain ⟨a0, len, cap, rfl⟩ := okWide_slice Tryz.underlying161 hv
  obtain ⟨fuel, hf⟩ := h
  rcases open_ints Tryz.underlying161 Tryz.underlying5 cells_byte hf with ⟨hcs, hx⟩ | ⟨a, len', cap', zs, hcs, _, hl, hm, hz, hx, hcell, hwz⟩
  · simp [Value.cells] at hcs
    obtain ⟨rfl, rfl, rfl⟩ := hcs
    exact ⟨[], ⟨none, 0, rfl, Nat.le_refl _, by simp [maxLen], fun j u hu => by simp at hu⟩, fun x hx => by cases hx⟩
  · simp [Value.cells] at hcs
    obtain ⟨rfl, rfl, rfl⟩ := hcs
    simp only [if_true] at hz
    refine ⟨zs.take len, ⟨some a, cap, by rw [List.length_take, Nat.min_eq_left (by omega)], by rw [List.length_take]; omega, hm, fun j u hu => ?_⟩, fun x hx => u8_bd (hwz x (List.mem_of_mem_take hx))⟩
    have hj : j < len := by have := (List.getElem?_eq_some_iff.1 hu).1; simp at this; omega
    have hc := hcell j (by omega)
    obtain ⟨b, off, spot⟩ := a
    have hspot : spot = none := by simpa [Addr.add] using World.cell?_spot (hcell 0 (by omega))
    subst hspot
    refine ⟨b, off, rfl, ?_⟩
    rw [add_plain] at hc
    rw [hc, ← hu]
    simp [List.getElem?_take, hj, show j < zs.length by omega]
end
end Go.Proofs.YtenedpboehkmjaaGreat
/- A region that draws its order, walked in one: what only reads ('soft': in every world that is the first one grown), what reads before anything is written ('pre': in the first world alone), and all else. No program in sight. -/
set_option linter.unusedSimpArgs false
set_option linter.unnecessarySimpa false
set_option linter.unusedVariables false
namespace Go.Proofs.YtenedpboehkmjaaGreat
open Go.RowKit

section
variable {P : Program} {ops : Array Oper} {md : Region.Mode} {Q : Exit → Act → World → Prop} {w0 : World} {row : Option Nat} {H : List Nat}

/-- The world while the operations of 'listed' have come up. -/
def StG (w0 : World) (row : Option Nat) (H : List Nat) (listed : Array Bool) (w : World) : Prop := w0.grownBy w row ∧ ((∀ j ∈ H, listed.getD j true = false) → w = w0)

def wpAnyG (P : Program) (md : Region.Mode) (ops : Array Oper) (Q : Exit → Act → World → Prop) (w0 : World) (row : Option Nat) (H : List Nat) : Nat → Array Bool → Act → World → Prop
  | 0, listed, a, w => Region.ready md ops listed = [] ∧ Q .normal a w
  | fuel + 1, listed, a, w =>
    (Region.ready md ops listed = [] → Q .normal a w) ∧
    ∀ i ∈ Region.ready md ops listed, wpOp P ops Q i (fun a' w' => StG w0 row H (listed.setIfInBounds i true) w' ∧ wpAnyG P md ops Q w0 row H fuel (listed.setIfInBounds i true) a' w') a w

theorem wpAny_of_G : ∀ (fuel : Nat) (listed : Array Bool) (a : Act) (w : World), wpAnyG P md ops Q w0 row H fuel listed a w → wpAny P md ops Q fuel listed a w
  | 0, _, _, _, h => h
  | fuel + 1, _, _, _, h => ⟨h.1, fun i hi => wpOp_mono (fun a' w' h' => wpAny_of_G fuel _ a' w' h'.2) (h.2 i hi)⟩

theorem getD_set_ne' {L : Array Bool} {i k : Nat} (h : i ≠ k) : (L.setIfInBounds i true).getD k true = L.getD k true := getD_set_ne true h

theorem StG.drop {L : Array Bool} {i j : Nat} {w : World} (hi : i ∉ H) (h : StG w0 row H ((L.setIfInBounds i true).setIfInBounds j true) w) : StG w0 row H (L.setIfInBounds j true) w := by
  refine ⟨h.1, fun hH => h.2 fun k hk => ?_⟩
  have := hH k hk
  by_cases e : j = k
  · subst e
    rw [Array.getD_eq_getD_getElem?, Array.getElem?_setIfInBounds] at this ⊢
    simp at this ⊢
    exact this
  · rw [getD_set_ne' e] at this ⊢
    rw [getD_set_ne' (fun e => hi (by rw [e]; exact hk))]; exact this
theorem StG.add {L : Array Bool} {i : Nat} {w : World} (hi : i ∉ H) (h : StG w0 row H L w) : StG w0 row H (L.setIfInBounds i true) w :=
  ⟨h.1, fun hH => h.2 fun k hk => by have := hH k hk; rwa [getD_set_ne' (fun e => hi (by rw [e]; exact hk))] at this⟩

theorem StG.hard {L : Array Bool} {j : Nat} {w : World} (hj : j ∈ H) (h : w0.grownBy w row) : StG w0 row H (L.setIfInBounds j true) w := by
  refine ⟨h, fun hH => ?_⟩
  have h1 := hH j hj
  rw [Array.getD_eq_getD_getElem?, Array.getElem?_setIfInBounds] at h1
  rcases Nat.lt_or_ge j L.size with h2 | h2
  · simp [h2] at h1
  · simp [Array.getElem?_eq_none h2, Nat.not_lt.2 h2] at h1

/-- 'i' may be taken first. 'C': the worlds in which it may come up. -/
theorem wpAnyG_first {C : World → Prop} {I : Array Bool → Prop} {i : Nat} {oi : Oper} {v : Value} (hi : ops[i]? = some oi) (hsel : ∀ (j : Nat) (o : Oper) cs b, ops[j]? = some o → o.op ≠ .select cs b) (hiH : i ∉ H)
    (hQ : ∀ c a w, Q (.panic c) (a.put oi.dst v) w → Q (.panic c) a w)
    (hC : ∀ L w, I L → L.getD i true = false → StG w0 row H L w → C w)
    (hI : ∀ L j oj, I L → ops[j]? = some oj → (∀ e ∈ oj.after, Region.binds md e = true → e.on ≠ i) → I (L.setIfInBounds j true)) :
    ∀ (fuel : Nat) (listed : Array Bool) (a : Act) (w : World),
      (∀ j oj, ops[j]? = some oj → j ≠ i → listed.getD j true = false → (∀ e ∈ oj.after, Region.binds md e = true → e.on ≠ i) → oi.apart ops oj = true) →
      i ∈ Region.ready md ops listed → I listed → YieldsIf P ops C oi v a → StG w0 row H listed w →
      wpAnyG P md ops Q w0 row H fuel (listed.setIfInBounds i true) (a.put oi.dst v) w → wpAnyG P md ops Q w0 row H (fuel + 1) listed a w := by
  intro fuel
  induction fuel with
  | zero =>
    intro listed a w _ hr hIL hy hS H
    refine ⟨fun h => (by rw [h] at hr; cases hr), fun j hj => ?_⟩
    by_cases hji : j = i
    · subst hji; exact hy.wpOp hi (hC _ _ hIL (mem_ready.1 hr).1 hS) ⟨hS.add hiH, H⟩
    · have := ready_mono hj hji
      rw [H.1] at this
      cases this
  | succ fuel ih =>
    intro listed a w hfree hr hIL hy hS H
    refine ⟨fun h => (by rw [h] at hr; cases hr), fun j hj => ?_⟩
    by_cases hji : j = i
    · subst hji; exact hy.wpOp hi (hC _ _ hIL (mem_ready.1 hr).1 hS) ⟨hS.add hiH, H⟩
    · have h1 := H.2 j (ready_mono hj hji)
      obtain ⟨hjun, oj, hoj, hall⟩ := mem_ready.1 hj
      have hnot : ∀ e ∈ oj.after, Region.binds md e = true → e.on ≠ i := fun e he hb heq => by
        have h1 := hall e he hb
        have h0 := (mem_ready.1 hr).1
        rw [heq] at h1
        rcases Nat.lt_or_ge i listed.size with h' | h'
        · simp [h'] at h0 h1; rw [h0] at h1; cases h1
        · simp [Array.getElem?_eq_none h'] at h1
      have h2 := wpOp_putIf hoj (hfree j oj hoj hji hjun hnot) (fun cs b => hsel i oi cs b hi) (fun cs b => hsel j oj cs b hoj) hQ hy h1
      have hfree' : ∀ k ok, ops[k]? = some ok → k ≠ i → (listed.setIfInBounds j true).getD k true = false →
          (∀ e ∈ ok.after, Region.binds md e = true → e.on ≠ i) → oi.apart ops ok = true := fun k ok hk hki hun hno => by
        refine hfree k ok hk hki ?_ hno
        by_cases hjk : j = k
        · subst hjk; exact hjun
        · rw [getD_set_ne true hjk] at hun; exact hun
      refine wpOp_mono (fun a' w' h3 => ⟨h3.2.1.drop hiH, ih (listed.setIfInBounds j true) a' w' hfree' (ready_mono hr (Ne.symm hji)) (hI _ _ _ hIL hoj hnot) h3.1 (h3.2.1.drop hiH) ?_⟩) h2
      rw [Array.setIfInBounds_comm _ _ hji]
      exact h3.2.2

/-- The operation yields one value in the first world, and leaves it alone. -/
def preAt (P : Program) (w0 : World) (o : Oper) (a : Act) (K : Act → Prop) : Prop :=
  ∃ v, (execOp a.eval o).run P w0 = .ok (.value v) w0 ∧ K (a.put o.dst v)
attribute [go_sem] preAt

/-- The walk in a given order: 0 all else, 1 soft, 2 pre. -/
def wpOrdG (P : Program) (ops : Array Oper) (Q : Exit → Act → World → Prop) (w0 : World) (row : Option Nat) (T : Act → World → Prop) : List (Nat × Nat) → Act → World → Prop
  | [], a, w => T a w
  | (i, 1) :: r, a, w =>
    match ops[i]? with
    | none => False
    | some o => if Region.wanted o (yielded ops a.tmps) = true then softAt P w0 row o a (fun a' => wpOrdG P ops Q w0 row T r a' w) else wpOrdG P ops Q w0 row T r (a.put o.dst undef) w
  | (i, 2) :: r, a, w =>
    match ops[i]? with
    | none => False
    | some o => if Region.wanted o (yielded ops a.tmps) = true then preAt P w0 o a (fun a' => wpOrdG P ops Q w0 row T r a' w) else wpOrdG P ops Q w0 row T r (a.put o.dst undef) w
  | (i, _) :: r, a, w => wpOp P ops Q i (fun a' w' => w0.grownBy w' row ∧ wpOrdG P ops Q w0 row T r a' w') a w

def waitsB (md : Region.Mode) (ops : Array Oper) (i j : Nat) : Bool := match ops[j]? with | some o => o.after.any fun e => Region.binds md e && e.on == i | none => false
def ordGB (md : Region.Mode) (ops : Array Oper) (H : List Nat) : List (Nat × Nat) → Array Bool → Bool
  | [], listed => (Region.ready md ops listed).isEmpty
  | (i, 1) :: r, listed => (Region.ready md ops listed).contains i && Region.free md ops listed i && !H.contains i && ordGB md ops H r (listed.setIfInBounds i true)
  | (i, 2) :: r, listed => (Region.ready md ops listed).contains i && Region.free md ops listed i && !H.contains i && (H.all fun j => !listed.getD j true && waitsB md ops i j) && ordGB md ops H r (listed.setIfInBounds i true)
  | (i, _) :: r, listed => decide (Region.ready md ops listed = [i]) && H.contains i && ordGB md ops H r (listed.setIfInBounds i true)

theorem wpOrdG_sound (hsel : Region.noSelect ops = true) (hQ : ∀ c a d v w, Q (.panic c) (Act.put a d v) w → Q (.panic c) a w) :
    ∀ (l : List (Nat × Nat)) (listed : Array Bool) (a : Act) (w : World), ordGB md ops H l listed = true → StG w0 row H listed w →
      wpOrdG P ops Q w0 row (Q .normal) l a w → wpAnyG P md ops Q w0 row H l.length listed a w
  | [], listed, a, w, hB, hS, h => ⟨by simpa [ordGB] using hB, h⟩
  | (i, 1) :: r, listed, a, w, hB, hS, h => by
    simp only [ordGB, Bool.and_eq_true, Bool.not_eq_true', List.contains_eq_mem, decide_eq_false_iff_not] at hB
    obtain ⟨⟨⟨hr, hf⟩, hiH⟩, hB'⟩ := hB
    simp only [wpOrdG] at h
    split at h
    · exact h.elim
    · rename_i o ho
      have fin : ∀ v, YieldsIf P ops (fun w => w0.grownBy w row) o v a → wpOrdG P ops Q w0 row (Q .normal) r (a.put o.dst v) w → wpAnyG P md ops Q w0 row H (((i, 1) :: r).length) listed a w := fun v hy h2 =>
        wpAnyG_first (C := fun w => w0.grownBy w row) (I := fun _ => True) ho (Region.noSelect_spec hsel) hiH (fun c a w => hQ c a _ _ w) (fun _ _ _ _ h => h.1) (fun _ _ _ _ _ _ => trivial) r.length listed a w (Region.free_spec ho hf) (by simpa using hr) trivial hy hS
          (wpOrdG_sound hsel hQ r _ _ w hB' (hS.add hiH) h2)
      split at h
      · rename_i hw
        obtain ⟨v, h1, h2⟩ := h
        refine fin v (.inl ⟨hw, fun w' hw' => ?_⟩) h2
        obtain ⟨x, rfl⟩ := ext_of_grown hw'
        exact h1 x
      · rename_i hw
        exact fin undef (.inr ⟨by simpa using hw, rfl⟩) h
  | (i, 2) :: r, listed, a, w, hB, hS, h => by
    simp only [ordGB, Bool.and_eq_true, Bool.not_eq_true', List.contains_eq_mem, decide_eq_false_iff_not, List.all_eq_true] at hB
    obtain ⟨⟨⟨⟨hr, hf⟩, hiH⟩, hall⟩, hB'⟩ := hB
    have hun : ∀ j ∈ H, listed.getD j true = false := fun j hj => (hall j hj).1
    have hwt : ∀ j ∈ H, waitsB md ops i j = true := fun j hj => (hall j hj).2
    have ew : w = w0 := hS.2 hun
    simp only [wpOrdG] at h
    split at h
    · exact h.elim
    · rename_i o ho
      have fin : ∀ v, YieldsIf P ops (fun w => w = w0) o v a → wpOrdG P ops Q w0 row (Q .normal) r (a.put o.dst v) w → wpAnyG P md ops Q w0 row H (((i, 2) :: r).length) listed a w := fun v hy h2 =>
        wpAnyG_first (C := fun w => w = w0) (I := fun L => ∀ j ∈ H, L.getD j true = false) ho (Region.noSelect_spec hsel) hiH (fun c a w => hQ c a _ _ w) (fun _ _ hI _ h => h.2 hI) (fun L j oj hI hoj hno k hk => by
            have hne : j ≠ k := fun e => by
              subst e
              have := hwt j hk
              unfold waitsB at this
              rw [hoj] at this
              simp only [Array.any_eq_true', Bool.and_eq_true, beq_iff_eq] at this
              obtain ⟨e, he, hb, hon⟩ := this
              exact hno e he hb hon
            rw [getD_set_ne' hne]; exact hI k hk) r.length listed a w (Region.free_spec ho hf) (by simpa using hr) hun hy hS
          (wpOrdG_sound hsel hQ r _ _ w hB' (hS.add hiH) h2)
      split at h
      · rename_i hw
        obtain ⟨v, h1, h2⟩ := h
        exact fin v (.inl ⟨hw, fun w' hw' => by rw [hw']; exact h1⟩) h2
      · rename_i hw
        exact fin undef (.inr ⟨by simpa using hw, rfl⟩) h
  | (i, 0) :: r, listed, a, w, hB, hS, h => by
    simp only [ordGB, Bool.and_eq_true, decide_eq_true_eq] at hB
    obtain ⟨⟨hr, hiH⟩, hB'⟩ := hB
    refine ⟨(fun h0 => by rw [hr] at h0; cases h0), fun j hj => ?_⟩
    rw [hr] at hj
    obtain rfl : j = i := by simpa using hj
    exact wpOp_mono (fun a' w' h' => ⟨StG.hard (by simpa using hiH) h'.1, wpOrdG_sound hsel hQ r _ a' w' hB' (StG.hard (by simpa using hiH) h'.1) h'.2⟩) h
  | (i, n + 3) :: r, listed, a, w, hB, hS, h => by
    simp only [ordGB, Bool.and_eq_true, decide_eq_true_eq] at hB
    obtain ⟨⟨hr, hiH⟩, hB'⟩ := hB
    refine ⟨(fun h0 => by rw [hr] at h0; cases h0), fun j hj => ?_⟩
    rw [hr] at hj
    obtain rfl : j = i := by simpa using hj
    exact wpOp_mono (fun a' w' h' => ⟨StG.hard (by simpa using hiH) h'.1, wpOrdG_sound hsel hQ r _ a' w' hB' (StG.hard (by simpa using hiH) h'.1) h'.2⟩) h

/-- A region in the order 'ord'. -/
theorem wp_region_ordG {id : Nat} {a : Act} {w : World} {l : List Oper} (ord : List (Nat × Nat)) (H : List Nat) (row : Option Nat) (hm : P.follows .mixedOrders = true)
    (hB : (Region.noSelect l.toArray && decide (ord.length = l.length) && ordGB .any l.toArray H ord (Array.replicate l.length false)) = true)
    (h : wpOrdG P l.toArray (NoPanic Q) w.drew row (NoPanic Q .normal) ord a w.drew) : (Code.region id l.toArray true).wp P Q a w := by
  simp only [Bool.and_eq_true, decide_eq_true_eq] at hB
  obtain ⟨⟨h1, h2⟩, h3⟩ := hB
  refine wp_region_noPanic (wp_region_any hm ?_)
  have := wpOrdG_sound (md := .any) (w0 := w.drew) (row := row) (H := H) h1 (fun c a d v w h => (h : False).elim) ord _ a w.drew h3 ⟨World.grownBy.refl _ _, fun _ => rfl⟩ h
  rw [h2] at this
  exact wpAny_of_G _ _ _ _ (by simpa using this)

theorem wpOrdG_nil {T : Act → World → Prop} {a : Act} {w : World} (h : T a w) : wpOrdG P ops Q w0 row T [] a w := h
theorem wpOrdG_soft {T : Act → World → Prop} {i : Nat} {r : List (Nat × Nat)} {a : Act} {w : World}
    (h : ∀ K : Act → Prop, (∀ a, wpOrdG P ops Q w0 row T r a w → K a) → match ops[i]? with | none => False | some o => if Region.wanted o (yielded ops a.tmps) = true then softAt P w0 row o a K else K (a.put o.dst undef)) : wpOrdG P ops Q w0 row T ((i, 1) :: r) a w :=
  h _ fun _ h => h
theorem wpOrdG_pre {T : Act → World → Prop} {i : Nat} {r : List (Nat × Nat)} {a : Act} {w : World}
    (h : ∀ K : Act → Prop, (∀ a, wpOrdG P ops Q w0 row T r a w → K a) → match ops[i]? with | none => False | some o => if Region.wanted o (yielded ops a.tmps) = true then preAt P w0 o a K else K (a.put o.dst undef)) : wpOrdG P ops Q w0 row T ((i, 2) :: r) a w :=
  h _ fun _ h => h
theorem wpOrdG_hard {T : Act → World → Prop} {i : Nat} {r : List (Nat × Nat)} {a : Act} {w : World}
    (h : match ops[i]? with | none => False | some o => wpList P ops (only Q fun a' w' => w0.grownBy w' row ∧ wpOrdG P ops Q w0 row T r a' w') [o] a w) : wpOrdG P ops Q w0 row T ((i, 0) :: r) a w := by
  simp only [wpOrdG]
  unfold wpOp
  split at h
  · exact h.elim
  rename_i o ho
  simp only [ho]
  simp only [wpList] at h
  split
  · rename_i hw
    rw [if_pos hw] at h
    refine h.imp (fun h => ?_) (fun ⟨h1, h2⟩ => ⟨h1, h2⟩)
    unfold Oper.wp at *
    generalize (execOp a.eval o).run P w = res at *
    cases res with
    | ok n w' =>
      cases n <;> simp only [Oper.upon] at h ⊢ <;> first | exact h | exact Calls.mono h (fun e w'' he => by cases e <;> exact he)
    | halt x w' => cases x <;> simp only [Oper.upon] at h ⊢ <;> exact h
  · rename_i hw
    rw [if_neg hw] at h
    exact h

end
end Go.Proofs.YtenedpboehkmjaaGreat
