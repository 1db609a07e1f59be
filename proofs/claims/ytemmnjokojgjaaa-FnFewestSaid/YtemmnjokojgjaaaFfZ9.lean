import Derived.Test.YtemmnjokojgjaaaFfZ8
import Derived.Test.YtemmnjokojgjaaaFfZ1
import Derived.Test.YtemmnjokojgjaaaFfZ7
import Derived.Test.YtemmnjokojgjaaaFfZ4
import Derived.Test.YtemmnjokojgjaaaFfZ3
/- Contracts of placeNote, l26Place and PlaceNote of both packages. -/
set_option linter.unusedSimpArgs false
set_option linter.unnecessarySimpa false
set_option linter.unusedVariables false
set_option maxRecDepth 100000
namespace Go.Proofs.Ytemmnjokojgjaaa
open Go.RowKit

/-- Where a note may be played, k octaves away. -/
def placeAt (notes : List Int) (note : Int) (k : Nat) : Option Int := if note - 12 * (k : Int) ∈ notes then some (note - 12 * (k : Int)) else if note + 12 * (k : Int) ∈ notes then some (note + 12 * (k : Int)) else none
def placeFrom (notes : List Int) (note : Int) : Nat → Nat → Int
  | 0, _ => -1
  | f + 1, k => match placeAt notes note k with
    | some r => r
    | none => placeFrom notes note f (k + 1)
def placeV (notes : List Int) (note : Int) : Int := placeFrom notes note 17 0
theorem pf_lo {notes : List Int} {note : Int} {f k : Nat} (h : note - 12 * (k : Int) ∈ notes) : placeFrom notes note (f + 1) k = note - 12 * (k : Int) := by unfold placeFrom placeAt; rw [if_pos h]
theorem pf_hi {notes : List Int} {note : Int} {f k : Nat} (h1 : ¬ note - 12 * (k : Int) ∈ notes) (h : note + 12 * (k : Int) ∈ notes) : placeFrom notes note (f + 1) k = note + 12 * (k : Int) := by unfold placeFrom placeAt; rw [if_neg h1, if_pos h]
theorem pf_no {notes : List Int} {note : Int} {f k : Nat} (h1 : ¬ note - 12 * (k : Int) ∈ notes) (h : ¬ note + 12 * (k : Int) ∈ notes) : placeFrom notes note (f + 1) k = placeFrom notes note f (k + 1) := by
  conv => lhs; unfold placeFrom placeAt
  rw [if_neg h1, if_neg h]
def SetIn (notes : List Int) : Prop := ∀ x ∈ notes, 0 ≤ x ∧ x ≤ 127
theorem pf_out {notes : List Int} {note : Int} (h : SetIn notes) (h1 : -24 ≤ note) (h2 : note ≤ 151) : placeFrom notes note 2 15 = -1 := by
  have a1 : ¬ note - 12 * ((15 : Nat) : Int) ∈ notes := fun m => by have := h _ m; omega
  have a2 : ¬ note + 12 * ((15 : Nat) : Int) ∈ notes := fun m => by have := h _ m; omega
  have b1 : ¬ note - 12 * ((16 : Nat) : Int) ∈ notes := fun m => by have := h _ m; omega
  have b2 : ¬ note + 12 * ((16 : Nat) : Int) ∈ notes := fun m => by have := h _ m; omega
  rw [pf_no a1 a2, pf_no b1 b2]; rfl
theorem place_in (notes : List Int) (note : Int) : placeV notes note = -1 ∨ placeV notes note ∈ notes := by
  have : ∀ f k, placeFrom notes note f k = -1 ∨ placeFrom notes note f k ∈ notes := by
    intro f
    induction f with
    | zero => intro k; exact .inl rfl
    | succ f ih =>
      intro k
      by_cases h1 : note - 12 * (k : Int) ∈ notes
      · rw [pf_lo h1]; exact .inr h1
      · by_cases h2 : note + 12 * (k : Int) ∈ notes
        · rw [pf_hi h1 h2]; exact .inr h2
        · rw [pf_no h1 h2]; exact ih _
  exact this 17 0
theorem set_in {xs : List Int} (h : validSet xs = true) : SetIn xs := by
  intro x hx
  obtain ⟨k, hk, rfl⟩ := List.getElem_of_mem hx
  have : Rises 0 127 xs := by unfold validSet at h; simp at h; exact h.2
  have h1 := this k hk
  unfold RiseAt at h1
  simp [hk] at h1
  omega

set_option maxHeartbeats 1000000 in
theorem l26Place_any (v : Value) (notes : List Int) (note : Int) (w : World) (h : Ints w v notes) (h1 : -1000000 ≤ note) (h2 : note ≤ 1000000) :
    Calls Try.prog 73 #[v, .int .i64 note] w fun e w' => e = .returned (.int .i64 (placeV notes note)) ∧ Q w w' := by
  obtain ⟨a, ca, rfl, _, _, _⟩ := id h
  go_enter Try.func73, Try.ntmps73
  go_wp2_with fail
  go_loopw [5] (fun i wr => ∃ (k f : Nat), k + f = 17 ∧ i = .int .i64 (k : Int) ∧ placeV notes note = placeFrom notes note f k ∧ Q w wr) (fun i _ => 17 - (intOf i).toNat)
  case atStart => exact ⟨0, 17, rfl, by go_num, rfl, Q.refl _⟩
  case round =>
    obtain ⟨k, f, hk, rfl, hp, hq⟩ := hrel
    have HP := Lib.hid hp; clear hp
    rcases f with _ | f
    · have dk : decide ((k : Int) ≤ 16) = false := by simp; omega
      go_wp2
      go_ret
      exact ⟨ret_int HP.out.symm, hq⟩
    · have dk : decide ((k : Int) ≤ 16) = true := by simp; omega
      obtain ⟨m, hm⟩ : ∃ m : Int, m = 12 * (k : Int) := ⟨_, rfl⟩
      have w1' : IntKind.i64.wrap (12 * (k : Int)) = m := by rw [hm]; exact IntWalk.i64_in _ (by omega)
      have w2' : IntKind.i64.wrap (note - m) = note - m := IntWalk.i64_in _ (by omega)
      have w3' : IntKind.i64.wrap (note + m) = note + m := IntWalk.i64_in _ (by omega)
      have hi := h.q hq
      by_cases g1 : note - m ∈ notes
      · have HX := Lib.hid (show placeV notes note = note - m by rw [HP.out, hm]; exact pf_lo (by rw [← hm]; exact g1))
        have G := Lib.hid (show true = decide (note - m ∈ notes) by simpa using g1); clear g1 hm
        go_wp2_with fail
        refine (l00HasB_any true _ notes (note - m) _ hi G.out).mono ?_
        rintro e w1 ⟨rfl, hq1⟩
        go_wp2
        go_ret
        exact ⟨ret_int HX.out.symm, hq.trans hq1⟩
      · by_cases g2 : note + m ∈ notes
        · have HX := Lib.hid (show placeV notes note = note + m by rw [HP.out, hm]; exact pf_hi (by rw [← hm]; exact g1) (by rw [← hm]; exact g2))
          have G := Lib.hid (show false = decide (note - m ∈ notes) by simpa using g1); have G2 := Lib.hid (show true = decide (note + m ∈ notes) by simpa using g2); clear g1 g2 hm
          go_wp2_with fail
          refine (l00HasB_any false _ notes (note - m) _ hi G.out).mono ?_
          rintro e w1 ⟨rfl, hq1⟩
          go_wp2_with fail
          refine (l00HasB_any true _ notes (note + m) _ (hi.q hq1) G2.out).mono ?_
          rintro e w2 ⟨rfl, hq2⟩
          go_wp2
          go_ret
          exact ⟨ret_int HX.out.symm, (hq.trans hq1).trans hq2⟩
        · have HX := Lib.hid (show placeV notes note = placeFrom notes note f (k + 1) by rw [HP.out]; exact pf_no (by rw [← hm]; exact g1) (by rw [← hm]; exact g2))
          have G := Lib.hid (show false = decide (note - m ∈ notes) by simpa using g1); have G2 := Lib.hid (show false = decide (note + m ∈ notes) by simpa using g2); clear g1 g2 hm
          go_wp2_with fail
          refine (l00HasB_any false _ notes (note - m) _ hi G.out).mono ?_
          rintro e w1 ⟨rfl, hq1⟩
          go_wp2_with fail
          refine (l00HasB_any false _ notes (note + m) _ (hi.q hq1) G2.out).mono ?_
          rintro e w2 ⟨rfl, hq2⟩
          go_wp2
          go_roundw
          case rel => exact ⟨k + 1, f, by omega, by go_num, HX.out, (hq.trans hq1).trans hq2⟩
          case measure => simp [intOf] <;> omega

set_option maxHeartbeats 2000000 in
theorem placeNote_any (v : Value) (notes : List Int) (note : Int) (w : World) (h : Ints w v notes) (hn : SetIn notes) (h1 : -24 ≤ note) (h2 : note ≤ 151) :
    Calls Try.prog 63 #[v, .int .i64 note] w fun e w' => e = .returned (.int .i64 (placeV notes note)) ∧ Below w.heap.size w w' := by
  obtain ⟨a, ca, rfl, _, _, _⟩ := id h
  have HN := Lib.hid hn; clear hn
  go_enter Try.func63, Try.ntmps63
  go_wp2_with fail
  go_loopw [5, 7, 18, 19, 20] (fun d _ _ _ _ wr => ∃ (k f : Nat) (dd : Int), k + f = 15 ∧ dd = 12 * (k : Int) ∧ d = .int .i64 dd ∧ placeV notes note = placeFrom notes note (f + 2) k ∧ Below w.heap.size w wr) (fun d _ _ _ _ _ => 180 - (intOf d).toNat)
  case atStart => exact ⟨0, 15, 0, rfl, rfl, rfl, rfl, Below.refl _ _⟩
  case round =>
    obtain ⟨k, f, dd, hk, hdd, rfl, hp, hb⟩ := hrel
    have HP := Lib.hid hp; have HDD := Lib.hid hdd; clear hp
    rcases f with _ | f
    · have dk : decide (dd ≤ 175) = false := by simp; omega
      have HX := Lib.hid (show placeV notes note = -1 by rw [HP.out, show k = 15 by omega]; exact pf_out HN.out h1 h2)
      go_wp2
      go_ret
      exact ⟨ret_int HX.out.symm, hb⟩
    · have dk : decide (dd ≤ 175) = true := by simp; omega
      have w2' : IntKind.i64.wrap (note - dd) = note - dd := IntWalk.i64_in _ (by omega)
      have w3' : IntKind.i64.wrap (note + dd) = note + dd := IntWalk.i64_in _ (by omega)
      have w4' : IntKind.i64.wrap (dd + 12) = dd + 12 := IntWalk.i64_in _ (by omega)
      have hd0 : 0 ≤ dd := by omega
      have hd1 : dd ≤ 168 := by omega
      have hi := Ints.mono h hb
      have HB := Lib.hid hb
      obtain ⟨wo, rfl⟩ : ∃ wo : World, wo = wr := ⟨_, rfl⟩
      clear hb hdd
      go_wp2_with fail
      go_loopw [20, 7] (fun i _ wr => ∃ j : Nat, j ≤ 2 ∧ i = .int .i64 (j : Int) ∧ (1 ≤ j → ¬ note - dd ∈ notes) ∧ (2 ≤ j → ¬ note + dd ∈ notes) ∧ Below wo.heap.size wo wr ∧ wr.cell? ⟨wo.heap.size, 0, none⟩ = some (.int .i64 (note - dd)) ∧ wr.cell? ⟨wo.heap.size, 1, none⟩ = some (.int .i64 (note + dd))) (fun i _ _ => 2 - (intOf i).toNat)
      case atStart => exact ⟨0, by omega, by go_num, fun h => by omega, fun h => by omega, by (repeat (first | with_reducible exact Below.refl _ _ | with_reducible exact hbw | (with_reducible refine Below.setCell ?_ ?_ _; rotate_left; · first | exact Nat.le_refl _ | omega | (simp; done) | (simp; omega)) | (with_reducible refine Below.alloc ?_ ?_ _; rotate_left; · first | exact Nat.le_refl _ | omega | (simp; done) | (simp; omega)) | with_reducible refine below_drewN ?_ _ | with_reducible refine Below.drew ?_)), by simp [go_sem], by simp [go_sem]⟩
      case round =>
        obtain ⟨j, hj, rfl, n1, n2, hb2, c0, c1⟩ := hrel
        have N1 := Lib.hid n1; have N2 := Lib.hid n2; clear n1 n2
        have hi2 := Ints.mono hi hb2
        have hz2 := hb2.size
        have HB2 := Lib.hid (HB.out.trans (hb2.mono HB.out.size))
        rcases j with _ | _ | j
        · by_cases g : note - dd ∈ notes
          · have HX := Lib.hid (show placeV notes note = note - dd by rw [HP.out, HDD.out]; exact pf_lo (by rw [← HDD.out]; exact g))
            have G := Lib.hid (show true = decide (note - dd ∈ notes) by simpa using g); clear g
            go_wp2_with fail
            refine (containsI_any true _ notes (note - dd) _ hi2 G.out).mono ?_
            rintro e w1 ⟨rfl, hq1⟩
            go_wp2
            go_ret
            exact ⟨ret_int HX.out.symm, HB2.out.trans (hq1.below _)⟩
          · have G := Lib.hid (show false = decide (note - dd ∈ notes) by simpa using g)
            have GN := Lib.hid g; clear g
            go_wp2_with fail
            refine (containsI_any false _ notes (note - dd) _ hi2 G.out).mono ?_
            rintro e w1 ⟨rfl, hq1⟩
            have c0 := (hq1.cell _).trans c0
            have c1 := (hq1.cell _).trans c1
            go_wp2
            go_roundw
            case rel => exact ⟨1, by omega, by go_num, fun _ => GN.out, fun h => by omega, hb2.trans (hq1.below _), c0, c1⟩
            case measure => simp [intOf] <;> omega
        · by_cases g : note + dd ∈ notes
          · have HX := Lib.hid (show placeV notes note = note + dd by rw [HP.out, HDD.out]; exact pf_hi (by rw [← HDD.out]; exact N1.out (by omega)) (by rw [← HDD.out]; exact g))
            have G := Lib.hid (show true = decide (note + dd ∈ notes) by simpa using g); clear g
            go_wp2_with fail
            refine (containsI_any true _ notes (note + dd) _ hi2 G.out).mono ?_
            rintro e w1 ⟨rfl, hq1⟩
            go_wp2
            go_ret
            exact ⟨ret_int HX.out.symm, HB2.out.trans (hq1.below _)⟩
          · have G := Lib.hid (show false = decide (note + dd ∈ notes) by simpa using g)
            have GN := Lib.hid g; clear g
            go_wp2_with fail
            refine (containsI_any false _ notes (note + dd) _ hi2 G.out).mono ?_
            rintro e w1 ⟨rfl, hq1⟩
            have c0 := (hq1.cell _).trans c0
            have c1 := (hq1.cell _).trans c1
            go_wp2
            go_roundw
            case rel => exact ⟨2, by omega, by go_num, fun _ => N1.out (by omega), fun _ => GN.out, hb2.trans (hq1.below _), c0, c1⟩
            case measure => simp [intOf] <;> omega
        · obtain rfl : j = 0 := by omega
          have HX := Lib.hid (show placeV notes note = placeFrom notes note (f + 2) (k + 1) by rw [HP.out]; exact pf_no (by rw [← HDD.out]; exact N1.out (by omega)) (by rw [← HDD.out]; exact N2.out (by omega)))
          go_wp2
          go_roundw
          case rel => exact ⟨k + 1, f, dd + 12, by omega, by rw [HDD.out]; omega, rfl, HX.out, HB2.out⟩
          case measure => simp [intOf] <;> omega

def pnIn (n : Int) : Prop := -24 ≤ n ∧ n ≤ 151
instance (n : Int) : Decidable (pnIn n) := by unfold pnIn; infer_instance
def pnV (notes : List Int) (n : Int) : Int := if validSet notes = true then if pnIn n then if placeV notes n < 0 then 0 else placeV notes n else 0 else 0
def pnC (notes : List Int) (n : Int) : Int := if validSet notes = true then if pnIn n then if placeV notes n < 0 then 3 else 0 else 2 else 1

set_option maxHeartbeats 1000000 in
theorem implPlaceNote_any (v : Value) (notes : List Int) (n : Int) (w : World) (h : RdInts w v notes) (ok : ∀ x ∈ notes, I64 x) (hs : notes.length ≤ 1048576) (_ : I64 n) :
    Calls Try.prog 27 #[v, .int .i64 n] w fun e w' => e = .returned (.tuple #[.int .i64 (pnV notes n), .int .i64 (pnC notes n)]) ∧ Below w.heap.size w w' := by
  have h : Ints w v notes := h
  unfold pnV pnC
  cases gs : validSet notes
  · have GS := Lib.hid gs; clear gs
    simp only [Bool.false_eq_true, if_false]
    go_enter Try.func27, Try.ntmps27
    go_wp2_with fail
    refine (implValidSet_any _ notes _ h).mono ?_
    rw [GS.out]
    rintro e w1 ⟨rfl, hq⟩
    go_wp2
    go_ret2
    exact ⟨rfl, hq.below _⟩
  · have GS := Lib.hid gs; clear gs
    simp only [if_true]
    by_cases gn : pnIn n
    · rw [if_pos gn, if_pos gn]
      obtain ⟨n1, n2⟩ := id gn
      have GN := Lib.hid gn; clear gn
      by_cases gp : placeV notes n < 0
      · have dp : decide (placeV notes n < 0) = true := by simpa using gp
        rw [if_pos gp, if_pos gp]
        clear gp
        go_enter Try.func27, Try.ntmps27
        go_wp2_with fail
        refine (implValidSet_any _ notes _ h).mono ?_
        rw [GS.out]
        rintro e w1 ⟨rfl, hq⟩
        go_wp2_with fail
        refine (within_any true _ _ _ _ (yesB GN.out)).mono ?_
        rintro e w2 ⟨rfl, rfl⟩
        go_wp2_with fail
        refine (placeNote_any _ notes n _ (h.q hq) (set_in GS.out) (by omega) (by omega)).mono ?_
        rintro e w3 ⟨rfl, hq2⟩
        go_wp2
        go_ret2
        exact ⟨rfl, (hq.below _).trans (hq2.mono (hq.below w.heap.size).size)⟩
      · have dp : decide (placeV notes n < 0) = false := by simpa using gp
        rw [if_neg gp, if_neg gp]
        clear gp
        go_enter Try.func27, Try.ntmps27
        go_wp2_with fail
        refine (implValidSet_any _ notes _ h).mono ?_
        rw [GS.out]
        rintro e w1 ⟨rfl, hq⟩
        go_wp2_with fail
        refine (within_any true _ _ _ _ (yesB GN.out)).mono ?_
        rintro e w2 ⟨rfl, rfl⟩
        go_wp2_with fail
        refine (placeNote_any _ notes n _ (h.q hq) (set_in GS.out) (by omega) (by omega)).mono ?_
        rintro e w3 ⟨rfl, hq2⟩
        go_wp2
        go_ret2
        exact ⟨rfl, (hq.below _).trans (hq2.mono (hq.below w.heap.size).size)⟩
    · rw [if_neg gn, if_neg gn]
      have GN := Lib.hid gn; clear gn
      go_enter Try.func27, Try.ntmps27
      go_wp2_with fail
      refine (implValidSet_any _ notes _ h).mono ?_
      rw [GS.out]
      rintro e w1 ⟨rfl, hq⟩
      go_wp2_with fail
      refine (within_any false _ _ _ _ (noB GN.out)).mono ?_
      rintro e w2 ⟨rfl, rfl⟩
      go_wp2
      go_ret2
      exact ⟨rfl, hq.below _⟩


end Go.Proofs.Ytemmnjokojgjaaa
/- Contracts of l26Ask and arranged: the first error of a tune, a set and a shift. -/
set_option linter.unusedSimpArgs false
set_option linter.unnecessarySimpa false
set_option linter.unusedVariables false
set_option maxRecDepth 100000
namespace Go.Proofs.Ytemmnjokojgjaaa
open Go.RowKit

def shiftIn (b : Int) : Prop := -24 ≤ b ∧ b ≤ 24
instance (b : Int) : Decidable (shiftIn b) := by unfold shiftIn; infer_instance
noncomputable def askC (x : TunD) (ns : List Int) (b : Int) : Int := if validTunB x = true then if validSet ns = true then if shiftIn b then 0 else 2 else 1 else 1
theorem ask_x {x : TunD} {ns : List Int} {b : Int} (h : ¬ validTunB x = true) : askC x ns b = 1 := by unfold askC; rw [if_neg h]
theorem ask_s {x : TunD} {ns : List Int} {b : Int} (h : validTunB x = true) (h2 : ¬ validSet ns = true) : askC x ns b = 1 := by unfold askC; rw [if_pos h, if_neg h2]
theorem ask_b {x : TunD} {ns : List Int} {b : Int} (h : validTunB x = true) (h2 : validSet ns = true) (h3 : ¬ shiftIn b) : askC x ns b = 2 := by unfold askC; rw [if_pos h, if_pos h2, if_neg h3]
theorem ask_ok {x : TunD} {ns : List Int} {b : Int} (h : validTunB x = true) (h2 : validSet ns = true) (h3 : shiftIn b) : askC x ns b = 0 := by unfold askC; rw [if_pos h, if_pos h2, if_pos h3]
/-- Right arguments: the code is 0 just then. -/
theorem ask_zero {x : TunD} {ns : List Int} {b : Int} : askC x ns b = 0 ↔ validTunB x = true ∧ validSet ns = true ∧ shiftIn b := by
  constructor
  · intro h
    by_cases h1 : validTunB x = true
    · by_cases h2 : validSet ns = true
      · by_cases h3 : shiftIn b
        · exact ⟨h1, h2, h3⟩
        · rw [ask_b h1 h2 h3] at h; cases h
      · rw [ask_s h1 h2] at h; cases h
    · rw [ask_x h1] at h; cases h
  · rintro ⟨h1, h2, h3⟩; exact ask_ok h1 h2 h3

theorem isShift_any (r : Bool) (b : Int) (w : World) (h : r = decide (shiftIn b)) :
    Calls Try.prog 77 #[.int .i64 b] w fun e w' => e = .returned (.bool r) ∧ w' = w := by
  have H := Lib.hid h; clear h
  go_enter Try.func77, Try.ntmps77
  go_wp2_with fail
  refine (within_any r _ _ _ _ H.out).mono ?_
  rintro e w1 ⟨rfl, rfl⟩
  go_wp2
  go_ret
  exact ⟨rfl, rfl⟩
theorem l26Shift_any (r : Bool) (b : Int) (w : World) (h : r = decide (shiftIn b)) :
    Calls Try.prog 72 #[.int .i64 b] w fun e w' => e = .returned (.bool r) ∧ w' = w := by
  have H := Lib.hid h; clear h
  go_enter Try.func72, Try.ntmps72
  go_wp2_with fail
  refine (l00In_any r _ _ _ _ H.out).mono ?_
  rintro e w1 ⟨rfl, rfl⟩
  go_wp2
  go_ret
  exact ⟨rfl, rfl⟩

set_option maxHeartbeats 1000000 in
theorem l26Ask_any (k : Nat) (lv v : Value) (x : TunD) (ns : List Int) (b : Int) (w : World) (h : TunIn w k lv x) (hn : Ints w v ns) :
    Calls Try.prog 41 #[.pointer (some ⟨k, 0, none⟩), v, .int .i64 b] w fun e w' => e = .returned (.int .i64 (askC x ns b)) ∧ Below w.heap.size w w' := by
  obtain ⟨a1, c1, rfl, _, _, _⟩ := id hn
  by_cases gx : validTunB x = true
  · have GX := Lib.hid gx
    cases gs : validSet ns
    · rw [ask_s gx (by rw [gs]; exact Bool.false_ne_true)]
      have GS := Lib.hid gs; clear gs gx
      go_enter Try.func41, Try.ntmps41
      go_wp2_with fail
      refine (l25Ok_any _ lv x _ h).mono ?_
      rw [GX.out]
      rintro e w1 ⟨rfl, hb⟩
      go_wp2_with fail
      refine (l26Set_any _ ns _ (Ints.mono hn hb)).mono ?_
      rw [GS.out]
      rintro e w2 ⟨rfl, hq⟩
      go_wp2
      go_ret
      exact ⟨rfl, hb.trans (hq.below _)⟩
    · by_cases gb : shiftIn b
      · rw [ask_ok gx gs gb]
        have GS := Lib.hid gs; have GB := Lib.hid (yesB gb); clear gs gx gb
        go_enter Try.func41, Try.ntmps41
        go_wp2_with fail
        refine (l25Ok_any _ lv x _ h).mono ?_
        rw [GX.out]
        rintro e w1 ⟨rfl, hb⟩
        go_wp2_with fail
        refine (l26Set_any _ ns _ (Ints.mono hn hb)).mono ?_
        rw [GS.out]
        rintro e w2 ⟨rfl, hq⟩
        go_wp2_with fail
        refine (l26Shift_any true _ _ GB.out).mono ?_
        rintro e w3 ⟨rfl, rfl⟩
        go_wp2
        go_ret
        exact ⟨rfl, hb.trans (hq.below _)⟩
      · rw [ask_b gx gs gb]
        have GS := Lib.hid gs; have GB := Lib.hid (noB gb); clear gs gx gb
        go_enter Try.func41, Try.ntmps41
        go_wp2_with fail
        refine (l25Ok_any _ lv x _ h).mono ?_
        rw [GX.out]
        rintro e w1 ⟨rfl, hb⟩
        go_wp2_with fail
        refine (l26Set_any _ ns _ (Ints.mono hn hb)).mono ?_
        rw [GS.out]
        rintro e w2 ⟨rfl, hq⟩
        go_wp2_with fail
        refine (l26Shift_any false _ _ GB.out).mono ?_
        rintro e w3 ⟨rfl, rfl⟩
        go_wp2
        go_ret
        exact ⟨rfl, hb.trans (hq.below _)⟩
  · rw [ask_x gx]
    have GX := Lib.hid (show validTunB x = false by simpa using gx); clear gx
    go_enter Try.func41, Try.ntmps41
    go_wp2_with fail
    refine (l25Ok_any _ lv x _ h).mono ?_
    rw [GX.out]
    rintro e w1 ⟨rfl, hb⟩
    go_wp2
    go_ret
    exact ⟨rfl, hb⟩

set_option maxHeartbeats 1000000 in
theorem arranged_any (vt lv v : Value) (x : TunD) (ns : List Int) (b : Int) (w : World) (h : Tun w vt lv x) (hx : x.name.size ≤ maxLen) (hn : Ints w v ns) :
    Calls Try.prog 44 #[vt, v, .int .i64 b] w fun e w' => e = .returned (.int .i64 (askC x ns b)) ∧ Below w.heap.size w w' := by
  obtain ⟨a1, c1, rfl, _, _, _⟩ := id hn
  obtain ⟨rfl, hlv⟩ := h
  by_cases gx : validTunB x = true
  · have GX := Lib.hid gx
    cases gs : validSet ns
    · rw [ask_s gx (by rw [gs]; exact Bool.false_ne_true)]
      have GS := Lib.hid gs; clear gs gx
      go_enter Try.func44, Try.ntmps44
      go_wp2_with fail
      refine (implValidTun_any _ lv x _ ⟨rfl, hlv.mono (by (repeat (first | with_reducible exact Below.refl _ _ | with_reducible exact hbw | (with_reducible refine Below.setCell ?_ ?_ _; rotate_left; · first | exact Nat.le_refl _ | omega | (simp; done) | (simp; omega)) | (with_reducible refine Below.alloc ?_ ?_ _; rotate_left; · first | exact Nat.le_refl _ | omega | (simp; done) | (simp; omega)) | with_reducible refine below_drewN ?_ _ | with_reducible refine Below.drew ?_)))⟩ hx).mono ?_
      rw [GX.out]
      rintro e w1 ⟨rfl, hb⟩
      have hbw : Below w.heap.size w w1 := Below.trans (by (repeat (first | with_reducible exact Below.refl _ _ | with_reducible exact hbw | (with_reducible refine Below.setCell ?_ ?_ _; rotate_left; · first | exact Nat.le_refl _ | omega | (simp; done) | (simp; omega)) | (with_reducible refine Below.alloc ?_ ?_ _; rotate_left; · first | exact Nat.le_refl _ | omega | (simp; done) | (simp; omega)) | with_reducible refine below_drewN ?_ _ | with_reducible refine Below.drew ?_))) (hb.mono (by simp <;> omega))
      go_wp2_with fail
      refine (implValidSet_any _ ns _ (Ints.mono hn hbw)).mono ?_
      rw [GS.out]
      rintro e w2 ⟨rfl, hq⟩
      go_wp2
      go_ret
      exact ⟨rfl, hbw.trans (hq.below _)⟩
    · by_cases gb : shiftIn b
      · rw [ask_ok gx gs gb]
        have GS := Lib.hid gs; have GB := Lib.hid (yesB gb); clear gs gx gb
        go_enter Try.func44, Try.ntmps44
        go_wp2_with fail
        refine (implValidTun_any _ lv x _ ⟨rfl, hlv.mono (by (repeat (first | with_reducible exact Below.refl _ _ | with_reducible exact hbw | (with_reducible refine Below.setCell ?_ ?_ _; rotate_left; · first | exact Nat.le_refl _ | omega | (simp; done) | (simp; omega)) | (with_reducible refine Below.alloc ?_ ?_ _; rotate_left; · first | exact Nat.le_refl _ | omega | (simp; done) | (simp; omega)) | with_reducible refine below_drewN ?_ _ | with_reducible refine Below.drew ?_)))⟩ hx).mono ?_
        rw [GX.out]
        rintro e w1 ⟨rfl, hb⟩
        have hbw : Below w.heap.size w w1 := Below.trans (by (repeat (first | with_reducible exact Below.refl _ _ | with_reducible exact hbw | (with_reducible refine Below.setCell ?_ ?_ _; rotate_left; · first | exact Nat.le_refl _ | omega | (simp; done) | (simp; omega)) | (with_reducible refine Below.alloc ?_ ?_ _; rotate_left; · first | exact Nat.le_refl _ | omega | (simp; done) | (simp; omega)) | with_reducible refine below_drewN ?_ _ | with_reducible refine Below.drew ?_))) (hb.mono (by simp <;> omega))
        go_wp2_with fail
        refine (implValidSet_any _ ns _ (Ints.mono hn hbw)).mono ?_
        rw [GS.out]
        rintro e w2 ⟨rfl, hq⟩
        go_wp2_with fail
        refine (isShift_any true _ _ GB.out).mono ?_
        rintro e w3 ⟨rfl, rfl⟩
        go_wp2
        go_ret
        exact ⟨rfl, hbw.trans (hq.below _)⟩
      · rw [ask_b gx gs gb]
        have GS := Lib.hid gs; have GB := Lib.hid (noB gb); clear gs gx gb
        go_enter Try.func44, Try.ntmps44
        go_wp2_with fail
        refine (implValidTun_any _ lv x _ ⟨rfl, hlv.mono (by (repeat (first | with_reducible exact Below.refl _ _ | with_reducible exact hbw | (with_reducible refine Below.setCell ?_ ?_ _; rotate_left; · first | exact Nat.le_refl _ | omega | (simp; done) | (simp; omega)) | (with_reducible refine Below.alloc ?_ ?_ _; rotate_left; · first | exact Nat.le_refl _ | omega | (simp; done) | (simp; omega)) | with_reducible refine below_drewN ?_ _ | with_reducible refine Below.drew ?_)))⟩ hx).mono ?_
        rw [GX.out]
        rintro e w1 ⟨rfl, hb⟩
        have hbw : Below w.heap.size w w1 := Below.trans (by (repeat (first | with_reducible exact Below.refl _ _ | with_reducible exact hbw | (with_reducible refine Below.setCell ?_ ?_ _; rotate_left; · first | exact Nat.le_refl _ | omega | (simp; done) | (simp; omega)) | (with_reducible refine Below.alloc ?_ ?_ _; rotate_left; · first | exact Nat.le_refl _ | omega | (simp; done) | (simp; omega)) | with_reducible refine below_drewN ?_ _ | with_reducible refine Below.drew ?_))) (hb.mono (by simp <;> omega))
        go_wp2_with fail
        refine (implValidSet_any _ ns _ (Ints.mono hn hbw)).mono ?_
        rw [GS.out]
        rintro e w2 ⟨rfl, hq⟩
        go_wp2_with fail
        refine (isShift_any false _ _ GB.out).mono ?_
        rintro e w3 ⟨rfl, rfl⟩
        go_wp2
        go_ret
        exact ⟨rfl, hbw.trans (hq.below _)⟩
  · rw [ask_x gx]
    have GX := Lib.hid (show validTunB x = false by simpa using gx); clear gx
    go_enter Try.func44, Try.ntmps44
    go_wp2_with fail
    refine (implValidTun_any _ lv x _ ⟨rfl, hlv.mono (by (repeat (first | with_reducible exact Below.refl _ _ | with_reducible exact hbw | (with_reducible refine Below.setCell ?_ ?_ _; rotate_left; · first | exact Nat.le_refl _ | omega | (simp; done) | (simp; omega)) | (with_reducible refine Below.alloc ?_ ?_ _; rotate_left; · first | exact Nat.le_refl _ | omega | (simp; done) | (simp; omega)) | with_reducible refine below_drewN ?_ _ | with_reducible refine Below.drew ?_)))⟩ hx).mono ?_
    rw [GX.out]
    rintro e w1 ⟨rfl, hb⟩
    have hbw : Below w.heap.size w w1 := Below.trans (by (repeat (first | with_reducible exact Below.refl _ _ | with_reducible exact hbw | (with_reducible refine Below.setCell ?_ ?_ _; rotate_left; · first | exact Nat.le_refl _ | omega | (simp; done) | (simp; omega)) | (with_reducible refine Below.alloc ?_ ?_ _; rotate_left; · first | exact Nat.le_refl _ | omega | (simp; done) | (simp; omega)) | with_reducible refine below_drewN ?_ _ | with_reducible refine Below.drew ?_))) (hb.mono (by simp <;> omega))
    go_wp2
    go_ret
    exact ⟨rfl, hbw⟩

end Go.Proofs.Ytemmnjokojgjaaa
/- Contracts of l26Missing, missing and MissingTones of both packages. -/
set_option linter.unusedSimpArgs false
set_option linter.unnecessarySimpa false
set_option linter.unusedVariables false
set_option maxRecDepth 100000
namespace Go.Proofs.Ytemmnjokojgjaaa
open Go.RowKit

/-- How many tones have no bell. -/
def missL (ns : List Int) (b : Int) (ts : List Ton) : List Ton := ts.filter fun x => decide (x.note + b ∉ ns)
def missV (x : TunD) (ns : List Int) (b : Int) : Int := (missL ns b x.tones).length
theorem miss_yes {ns : List Int} {b : Int} {ts : List Ton} {k : Nat} (h : k < ts.length) (hp : ts[k].note + b ∈ ns) : missL ns b (ts.take (k + 1)) = missL ns b (ts.take k) := by
  unfold missL; rw [List.take_succ_eq_append_getElem h, List.filter_append]; simp [hp]
theorem miss_no {ns : List Int} {b : Int} {ts : List Ton} {k : Nat} (h : k < ts.length) (hp : ¬ ts[k].note + b ∈ ns) : (missL ns b (ts.take (k + 1))).length = (missL ns b (ts.take k)).length + 1 := by
  unfold missL; rw [List.take_succ_eq_append_getElem h, List.filter_append, List.length_append]; simp [hp]
theorem miss_len (ns : List Int) (b : Int) (ts : List Ton) (k : Nat) : (missL ns b (ts.take k)).length ≤ k := by
  unfold missL; exact Nat.le_trans (List.length_filter_le _ _) (List.length_take_le _ _)
theorem TonOk.noteIn {x : Ton} (h : TonOk x) : 0 ≤ x.note ∧ x.note ≤ 127 := by
  have := h.note; unfold noteOk at this; exact this

set_option maxHeartbeats 1000000 in
theorem missing_any (vt lv v : Value) (x : TunD) (ns : List Int) (b : Int) (w : World) (h : Tun w vt lv x) (hn : Ints w v ns) (ok : validTunB x = true) (hs : shiftIn b) :
    Calls Try.prog 55 #[vt, v, .int .i64 b] w fun e w' => e = .returned (.int .i64 (missV x ns b)) ∧ Below w.heap.size w w' := by
  obtain ⟨rfl, hlv⟩ := h
  obtain ⟨a, ca, rfl, hca, hcm, _⟩ := id hlv
  obtain ⟨a1, cs1, rfl, _, _, _⟩ := id hn
  have hl := tun_len ok
  have OK := Lib.hid ok; clear ok
  obtain ⟨s1, s2⟩ := hs
  go_enter Try.func55, Try.ntmps55
  go_wp2_with fail
  go_loopw [7, 13, 9] (fun m i _ wr => ∃ k : Nat, k ≤ x.tones.length ∧ i = .int .i64 (k : Int) ∧ m = .int .i64 ((missL ns b (x.tones.take k)).length : Int) ∧ Below w.heap.size w wr) (fun _ i _ _ => x.tones.length - (intOf i).toNat)
  case atStart => exact ⟨0, Nat.zero_le _, by go_num, by simp [missL], by (repeat (first | with_reducible exact Below.refl _ _ | with_reducible exact hbw | (with_reducible refine Below.setCell ?_ ?_ _; rotate_left; · first | exact Nat.le_refl _ | omega | (simp; done) | (simp; omega)) | (with_reducible refine Below.alloc ?_ ?_ _; rotate_left; · first | exact Nat.le_refl _ | omega | (simp; done) | (simp; omega)) | with_reducible refine below_drewN ?_ _ | with_reducible refine Below.drew ?_))⟩
  case round =>
    obtain ⟨k, hk, rfl, rfl, hb⟩ := hrel
    have hz := hb.size
    by_cases hlt : k < x.tones.length
    · obtain ⟨b1, o1, rfl, hB1, d0, d1, d2⟩ := (hlv.mono hb).at hlt
      have l1 : b1 < wr.heap.size + 1 := by omega
      obtain ⟨n1, n2⟩ := (tun_tone OK.out hlt).noteIn
      have w1' : IntKind.i64.wrap (x.tones[k].note + b) = x.tones[k].note + b := IntWalk.i64_in _ (by omega)
      have ml := miss_len ns b x.tones k
      have HB := Lib.hid hb
      by_cases g : x.tones[k].note + b ∈ ns
      · have M := Lib.hid (miss_yes hlt g)
        have G := Lib.hid (show true = decide (x.tones[k].note + b ∈ ns) by simpa using g); clear g hb
        go_wp2_with fail
        refine (containsI_any true _ ns _ _ (Ints.mono hn (by have hbw := HB.out; (repeat (first | with_reducible exact Below.refl _ _ | with_reducible exact hbw | (with_reducible refine Below.setCell ?_ ?_ _; rotate_left; · first | exact Nat.le_refl _ | omega | (simp; done) | (simp; omega)) | (with_reducible refine Below.alloc ?_ ?_ _; rotate_left; · first | exact Nat.le_refl _ | omega | (simp; done) | (simp; omega)) | with_reducible refine below_drewN ?_ _ | with_reducible refine Below.drew ?_)))) G.out).mono ?_
        rintro e w1 ⟨rfl, hq1⟩
        have hst : Below wr.heap.size wr w1 := Below.trans (by (repeat (first | with_reducible exact Below.refl _ _ | with_reducible exact hbw | (with_reducible refine Below.setCell ?_ ?_ _; rotate_left; · first | exact Nat.le_refl _ | omega | (simp; done) | (simp; omega)) | (with_reducible refine Below.alloc ?_ ?_ _; rotate_left; · first | exact Nat.le_refl _ | omega | (simp; done) | (simp; omega)) | with_reducible refine below_drewN ?_ _ | with_reducible refine Below.drew ?_))) (hq1.below _)
        go_wp2
        go_roundw
        case rel => exact ⟨k + 1, by omega, by go_num, by rw [M.out], HB.out.trans (hst.mono hz)⟩
        case measure => simp [intOf] <;> omega
      · have M := Lib.hid (miss_no hlt g)
        have G := Lib.hid (show false = decide (x.tones[k].note + b ∈ ns) by simpa using g); clear g hb
        have w2' : IntKind.i64.wrap (((missL ns b (x.tones.take k)).length : Int) + 1) = ((missL ns b (x.tones.take k)).length : Int) + 1 := IntWalk.i64_in _ (by omega)
        go_wp2_with fail
        refine (containsI_any false _ ns _ _ (Ints.mono hn (by have hbw := HB.out; (repeat (first | with_reducible exact Below.refl _ _ | with_reducible exact hbw | (with_reducible refine Below.setCell ?_ ?_ _; rotate_left; · first | exact Nat.le_refl _ | omega | (simp; done) | (simp; omega)) | (with_reducible refine Below.alloc ?_ ?_ _; rotate_left; · first | exact Nat.le_refl _ | omega | (simp; done) | (simp; omega)) | with_reducible refine below_drewN ?_ _ | with_reducible refine Below.drew ?_)))) G.out).mono ?_
        rintro e w1 ⟨rfl, hq1⟩
        have hst : Below wr.heap.size wr w1 := Below.trans (by (repeat (first | with_reducible exact Below.refl _ _ | with_reducible exact hbw | (with_reducible refine Below.setCell ?_ ?_ _; rotate_left; · first | exact Nat.le_refl _ | omega | (simp; done) | (simp; omega)) | (with_reducible refine Below.alloc ?_ ?_ _; rotate_left; · first | exact Nat.le_refl _ | omega | (simp; done) | (simp; omega)) | with_reducible refine below_drewN ?_ _ | with_reducible refine Below.drew ?_))) (hq1.below _)
        go_wp2
        go_roundw
        case rel => exact ⟨k + 1, by omega, by go_num, by rw [M.out]; go_num, HB.out.trans (hst.mono hz)⟩
        case measure => simp [intOf] <;> omega
    · have M := Lib.hid (show missL ns b (x.tones.take k) = missL ns b x.tones by rw [List.take_of_length_le (by omega)])
      rw [M.out]
      go_wp2
      go_ret
      exact ⟨rfl, hb⟩

noncomputable def mtV (x : TunD) (ns : List Int) (b : Int) : Int := if askC x ns b = 0 then missV x ns b else 0

set_option maxHeartbeats 1000000 in
theorem implMissingTones_any (v : Value) (x : TunD) (v2 : Value) (ns : List Int) (b : Int) (w : World) (h : RdTun w v x) (ok : x.ok) (_ : x.tones.length ≤ 1048576) (hn : RdInts w v2 ns) (_ : ∀ x ∈ ns, I64 x) (_ : ns.length ≤ 1048576) (_ : I64 b) :
    Calls Try.prog 24 #[v, v2, .int .i64 b] w fun e w' => e = .returned (.tuple #[.int .i64 (mtV x ns b), .int .i64 (askC x ns b)]) ∧ Below w.heap.size w w' := by
  obtain ⟨lv, rfl, hlv⟩ := h
  have hn : Ints w v2 ns := hn
  obtain ⟨a1, cs1, rfl, _, _, _⟩ := id hn
  by_cases ga : askC x ns b = 0
  · have AV := Lib.hid (ask_zero.1 ga)
    have E := Lib.hid (show mtV x ns b = missV x ns b by unfold mtV; rw [if_pos ga])
    have d0 : (askC x ns b != 0) = false := by simpa using ga
    have A0 := Lib.hid ga; clear ga
    go_enter Try.func24, Try.ntmps24
    go_wp2_with fail
    refine (arranged_any _ lv _ x ns b _ ⟨rfl, hlv.mono (by (repeat (first | with_reducible exact Below.refl _ _ | with_reducible exact hbw | (with_reducible refine Below.setCell ?_ ?_ _; rotate_left; · first | exact Nat.le_refl _ | omega | (simp; done) | (simp; omega)) | (with_reducible refine Below.alloc ?_ ?_ _; rotate_left; · first | exact Nat.le_refl _ | omega | (simp; done) | (simp; omega)) | with_reducible refine below_drewN ?_ _ | with_reducible refine Below.drew ?_)))⟩ ok.1 (Ints.mono hn (by (repeat (first | with_reducible exact Below.refl _ _ | with_reducible exact hbw | (with_reducible refine Below.setCell ?_ ?_ _; rotate_left; · first | exact Nat.le_refl _ | omega | (simp; done) | (simp; omega)) | (with_reducible refine Below.alloc ?_ ?_ _; rotate_left; · first | exact Nat.le_refl _ | omega | (simp; done) | (simp; omega)) | with_reducible refine below_drewN ?_ _ | with_reducible refine Below.drew ?_))))).mono ?_
    rintro e w1 ⟨rfl, hb⟩
    have hbw : Below w.heap.size w w1 := Below.trans (by (repeat (first | with_reducible exact Below.refl _ _ | with_reducible exact hbw | (with_reducible refine Below.setCell ?_ ?_ _; rotate_left; · first | exact Nat.le_refl _ | omega | (simp; done) | (simp; omega)) | (with_reducible refine Below.alloc ?_ ?_ _; rotate_left; · first | exact Nat.le_refl _ | omega | (simp; done) | (simp; omega)) | with_reducible refine below_drewN ?_ _ | with_reducible refine Below.drew ?_))) (hb.mono (by simp <;> omega))
    have y0 : w1.cell? ⟨w.heap.size, 0, none⟩ = some (.string x.name) := cellB hb (by simp [go_sem])
    have y1 : w1.cell? ⟨w.heap.size, 1, none⟩ = some lv := cellB hb (by simp [go_sem])
    clear hb
    go_wp2_with fail
    refine (missing_any _ lv _ x ns b _ ⟨rfl, hlv.mono hbw⟩ (Ints.mono hn hbw) AV.out.1 AV.out.2.2).mono ?_
    rintro e w2 ⟨rfl, h2⟩
    go_wp2
    go_ret2
    exact ⟨by rw [E.out, A0.out]; rfl, hbw.trans (h2.mono hbw.size)⟩
  · have E := Lib.hid (show mtV x ns b = 0 by unfold mtV; rw [if_neg ga])
    have d0 : (askC x ns b != 0) = true := by simpa using ga
    clear ga
    go_enter Try.func24, Try.ntmps24
    go_wp2_with fail
    refine (arranged_any _ lv _ x ns b _ ⟨rfl, hlv.mono (by (repeat (first | with_reducible exact Below.refl _ _ | with_reducible exact hbw | (with_reducible refine Below.setCell ?_ ?_ _; rotate_left; · first | exact Nat.le_refl _ | omega | (simp; done) | (simp; omega)) | (with_reducible refine Below.alloc ?_ ?_ _; rotate_left; · first | exact Nat.le_refl _ | omega | (simp; done) | (simp; omega)) | with_reducible refine below_drewN ?_ _ | with_reducible refine Below.drew ?_)))⟩ ok.1 (Ints.mono hn (by (repeat (first | with_reducible exact Below.refl _ _ | with_reducible exact hbw | (with_reducible refine Below.setCell ?_ ?_ _; rotate_left; · first | exact Nat.le_refl _ | omega | (simp; done) | (simp; omega)) | (with_reducible refine Below.alloc ?_ ?_ _; rotate_left; · first | exact Nat.le_refl _ | omega | (simp; done) | (simp; omega)) | with_reducible refine below_drewN ?_ _ | with_reducible refine Below.drew ?_))))).mono ?_
    rintro e w1 ⟨rfl, hb⟩
    have hbw : Below w.heap.size w w1 := Below.trans (by (repeat (first | with_reducible exact Below.refl _ _ | with_reducible exact hbw | (with_reducible refine Below.setCell ?_ ?_ _; rotate_left; · first | exact Nat.le_refl _ | omega | (simp; done) | (simp; omega)) | (with_reducible refine Below.alloc ?_ ?_ _; rotate_left; · first | exact Nat.le_refl _ | omega | (simp; done) | (simp; omega)) | with_reducible refine below_drewN ?_ _ | with_reducible refine Below.drew ?_))) (hb.mono (by simp <;> omega))
    clear hb
    go_wp2
    go_ret2
    exact ⟨by rw [E.out]; rfl, hbw⟩

end Go.Proofs.Ytemmnjokojgjaaa
/- Arranging: which tones are kept, and which are moved. Plain. -/
set_option linter.unusedSimpArgs false
set_option linter.unnecessarySimpa false
set_option linter.unusedVariables false
set_option maxRecDepth 100000
namespace Go.Proofs.Ytemmnjokojgjaaa
open Go.RowKit

/-- Start and note are the same. -/
def snB (t y : Ton) : Bool := decide (y.start = t.start) && decide (y.note = t.note)
theorem snB_iff {t y : Ton} : snB t y = true ↔ y.start = t.start ∧ y.note = t.note := by simp [snB]
def arTon (ns : List Int) (b : Int) (x : Ton) : Ton := ⟨placeV ns (x.note + b), x.start, x.len⟩
def arMv (ns : List Int) (b : Int) (x : Ton) : Bool := placeV ns (x.note + b) != x.note + b
def zTon : Ton := ⟨0, 0, 0⟩
def arStep (ns : List Int) (b : Int) (s : List Ton × List Bool) (x : Ton) : List Ton × List Bool :=
  if placeV ns (x.note + b) < 0 then s else
  match s.1.findIdx? (snB (arTon ns b x)) with
  | none => (s.1 ++ [arTon ns b x], s.2 ++ [arMv ns b x])
  | some k => if (s.1.getD k zTon).len < x.len then (s.1.set k (arTon ns b x), s.2.set k (arMv ns b x)) else s
def arTo (ns : List Int) (b : Int) (ts : List Ton) : Nat → List Ton × List Bool
  | 0 => ([], [])
  | k + 1 => match ts[k]? with
    | some x => arStep ns b (arTo ns b ts k) x
    | none => arTo ns b ts k
theorem arTo_at {ns : List Int} {b : Int} {ts : List Ton} {k : Nat} (h : k < ts.length) : arTo ns b ts (k + 1) = arStep ns b (arTo ns b ts k) ts[k] := by
  conv => lhs; unfold arTo
  rw [List.getElem?_eq_getElem h]
theorem ar_drop {ns : List Int} {b : Int} {s : List Ton × List Bool} {x : Ton} (h : placeV ns (x.note + b) < 0) : arStep ns b s x = s := if_pos h
theorem find_none {P : Ton → Bool} {xs : List Ton} (h : ∀ j (hj : j < xs.length), P xs[j] = false) : xs.findIdx? P = none := by
  rw [List.findIdx?_eq_none_iff]
  intro x hx
  obtain ⟨j, hj, rfl⟩ := List.getElem_of_mem hx
  exact h j hj
theorem find_some {P : Ton → Bool} {xs : List Ton} {k : Nat} (hk : k < xs.length) (hp : P xs[k] = true) (h : ∀ j (hj : j < xs.length), j < k → P xs[j] = false) : xs.findIdx? P = some k := by
  rw [List.findIdx?_eq_some_iff_getElem]
  exact ⟨hk, hp, fun j hj => by have := h j (by omega) hj; simp [this]⟩
theorem ar_new {ns : List Int} {b : Int} {s : List Ton × List Bool} {x : Ton} (h : ¬ placeV ns (x.note + b) < 0) (hn : ∀ j (hj : j < s.1.length), snB (arTon ns b x) s.1[j] = false) : arStep ns b s x = (s.1 ++ [arTon ns b x], s.2 ++ [arMv ns b x]) := by
  unfold arStep; rw [if_neg h, find_none hn]
theorem ar_set {ns : List Int} {b : Int} {s : List Ton × List Bool} {x : Ton} {k : Nat} (h : ¬ placeV ns (x.note + b) < 0) (hk : k < s.1.length) (hp : snB (arTon ns b x) s.1[k] = true) (hn : ∀ j (hj : j < s.1.length), j < k → snB (arTon ns b x) s.1[j] = false) (hl : s.1[k].len < x.len) :
    arStep ns b s x = (s.1.set k (arTon ns b x), s.2.set k (arMv ns b x)) := by
  unfold arStep; rw [if_neg h, find_some hk hp hn]
  simp only
  rw [show s.1.getD k zTon = s.1[k] by simp [hk], if_pos hl]
theorem ar_keep {ns : List Int} {b : Int} {s : List Ton × List Bool} {x : Ton} {k : Nat} (h : ¬ placeV ns (x.note + b) < 0) (hk : k < s.1.length) (hp : snB (arTon ns b x) s.1[k] = true) (hn : ∀ j (hj : j < s.1.length), j < k → snB (arTon ns b x) s.1[j] = false) (hl : ¬ s.1[k].len < x.len) :
    arStep ns b s x = s := by
  unfold arStep; rw [if_neg h, find_some hk hp hn]
  simp only
  rw [show s.1.getD k zTon = s.1[k] by simp [hk], if_neg hl]

/-- No two of the tones have start and note in common. -/
def Dst (d : List Ton) : Prop := d.Pairwise fun x y => ¬ (x.start = y.start ∧ x.note = y.note)
structure ArOk (k : Nat) (s : List Ton × List Bool) : Prop where
  len : s.2.length = s.1.length
  le : s.1.length ≤ k
  ok : ∀ y ∈ s.1, TonOk y
  dst : Dst s.1
theorem dst_at {d : List Ton} (h : Dst d) {i j : Nat} (hi : i < d.length) (hj : j < d.length) (t : Ton) (h1 : snB t d[i] = true) (h2 : snB t d[j] = true) : i = j := by
  obtain ⟨a1, a2⟩ := snB_iff.1 h1
  obtain ⟨b1, b2⟩ := snB_iff.1 h2
  unfold Dst at h
  rw [List.pairwise_iff_getElem] at h
  rcases Nat.lt_trichotomy i j with g | g | g
  · exact absurd ⟨a1.trans b1.symm, a2.trans b2.symm⟩ (h i j hi hj g)
  · exact g
  · exact absurd ⟨b1.trans a1.symm, b2.trans a2.symm⟩ (h j i hj hi g)
theorem ar_ton_ok {ns : List Int} {b : Int} {x : Ton} (hs : SetIn ns) (hx : TonOk x) (h : ¬ placeV ns (x.note + b) < 0) : TonOk (arTon ns b x) := by
  refine ⟨?_, hx.start, hx.len⟩
  rcases place_in ns (x.note + b) with e | e
  · rw [e] at h; omega
  · exact hs _ e
theorem ArOk.step {ns : List Int} {b : Int} {k : Nat} {s : List Ton × List Bool} {x : Ton} (h : ArOk k s) (hs : SetIn ns) (hx : TonOk x) : ArOk (k + 1) (arStep ns b s x) := by
  by_cases hp : placeV ns (x.note + b) < 0
  · rw [ar_drop hp]; exact ⟨h.len, by have := h.le; omega, h.ok, h.dst⟩
  · have ht := ar_ton_ok hs hx hp
    unfold arStep
    rw [if_neg hp]
    cases hf : s.1.findIdx? (snB (arTon ns b x)) with
    | none =>
      rw [List.findIdx?_eq_none_iff] at hf
      refine ⟨by simp [h.len], by have := h.le; simp; omega, fun y hy => ?_, ?_⟩
      · rcases List.mem_append.1 hy with hy | hy
        · exact h.ok y hy
        · rw [List.mem_singleton.1 hy]; exact ht
      · unfold Dst
        rw [List.pairwise_append]
        refine ⟨h.dst, by simp, fun y hy z hz => ?_⟩
        rw [List.mem_singleton.1 hz]
        intro e
        have := hf y hy
        rw [snB_iff.2 e] at this; cases this
    | some j =>
      simp only
      rw [List.findIdx?_eq_some_iff_getElem] at hf
      obtain ⟨hj, h1, h2⟩ := hf
      split
      · refine ⟨by simp [h.len], by have := h.le; simp; omega, fun y hy => ?_, ?_⟩
        · rcases List.mem_or_eq_of_mem_set hy with hy | rfl
          · exact h.ok y hy
          · exact ht
        · obtain ⟨e1, e2⟩ := snB_iff.1 h1
          have hd := h.dst
          unfold Dst at hd ⊢
          rw [List.pairwise_iff_getElem] at hd ⊢
          intro p q hp hq hpq
          simp only [List.length_set] at hp hq
          have hpqs := hd p q hp hq hpq
          by_cases ep : j = p
          · subst ep
            rw [List.getElem_set_self, List.getElem_set_ne (by omega), ← e1, ← e2]; exact hpqs
          · by_cases eq : j = q
            · subst eq
              rw [List.getElem_set_self, List.getElem_set_ne (by omega), ← e1, ← e2]; exact hpqs
            · rw [List.getElem_set_ne ep, List.getElem_set_ne eq]; exact hpqs
      · exact ⟨h.len, by have := h.le; omega, h.ok, h.dst⟩
theorem ar_ok {ns : List Int} {b : Int} {ts : List Ton} (hs : SetIn ns) (ht : ∀ x ∈ ts, TonOk x) : ∀ k, ArOk k (arTo ns b ts k)
  | 0 => ⟨rfl, Nat.le_refl _, (fun y hy => by cases hy), List.Pairwise.nil⟩
  | k + 1 => by
    by_cases h : k < ts.length
    · rw [arTo_at h]; exact (ar_ok hs ht k).step hs (ht _ (List.getElem_mem h))
    · have e : arTo ns b ts (k + 1) = arTo ns b ts k := by
        conv => lhs; unfold arTo
        rw [List.getElem?_eq_none (by omega)]
      rw [e]
      have := ar_ok (b := b) hs ht k
      exact ⟨this.len, by have := this.le; omega, this.ok, this.dst⟩

/-- How many of the first k are moved. -/
def mvCnt (l : List Bool) : Nat → Int
  | 0 => 0
  | k + 1 => if l.getD k false = true then mvCnt l k + 1 else mvCnt l k
theorem mv_bd (l : List Bool) : ∀ k : Nat, 0 ≤ mvCnt l k ∧ mvCnt l k ≤ (k : Int)
  | 0 => ⟨Int.le_refl _, Int.le_refl _⟩
  | k + 1 => by
    have := mv_bd l k
    unfold mvCnt; split <;> omega
theorem mv_yes {l : List Bool} {k : Nat} (h : l.getD k false = true) : mvCnt l (k + 1) = mvCnt l k + 1 := if_pos h
theorem mv_no {l : List Bool} {k : Nat} (h : l.getD k false = false) : mvCnt l (k + 1) = mvCnt l k := if_neg (by rw [h]; exact Bool.false_ne_true)

end Go.Proofs.Ytemmnjokojgjaaa
