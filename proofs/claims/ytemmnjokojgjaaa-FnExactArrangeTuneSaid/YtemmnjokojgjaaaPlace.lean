/- Contracts of placeNote, l26Place and PlaceNote of both packages. -/
import Derived.Test.YtemmnjokojgjaaaHasI
import Derived.Test.YtemmnjokojgjaaaSet
import Derived.Test.YtemmnjokojgjaaaKInts
import Derived.Test.YtemmnjokojgjaaaApp
set_option linter.unusedSimpArgs false
set_option linter.unnecessarySimpa false
set_option linter.unusedVariables false
set_option maxRecDepth 100000
namespace Go.Proofs.Ytemmnjokojgjaaa
open Go.RowKit

/-- Where a note may be played, k octaves away. -/
def placeAt (notes : List Int) (note : Int) (k : Nat) : Option Int := if note - 12 * (k : Int) ∈ notes then some (note - 12 * (k : Int)) else if note + 12 * (k : Int) ∈ notes then some (note + 12 * (k : Int)) else none
def placeFrom (notes : List Int) (note : Int) : Nat → Nat → Int
  | 0, _ => -1
  | f + 1, k => match placeAt notes note k with
    | some r => r
    | none => placeFrom notes note f (k + 1)
def placeV (notes : List Int) (note : Int) : Int := placeFrom notes note 17 0
theorem pf_lo {notes : List Int} {note : Int} {f k : Nat} (h : note - 12 * (k : Int) ∈ notes) : placeFrom notes note (f + 1) k = note - 12 * (k : Int) := by unfold placeFrom placeAt; rw [if_pos h]
theorem pf_hi {notes : List Int} {note : Int} {f k : Nat} (h1 : ¬ note - 12 * (k : Int) ∈ notes) (h : note + 12 * (k : Int) ∈ notes) : placeFrom notes note (f + 1) k = note + 12 * (k : Int) := by unfold placeFrom placeAt; rw [if_neg h1, if_pos h]
theorem pf_no {notes : List Int} {note : Int} {f k : Nat} (h1 : ¬ note - 12 * (k : Int) ∈ notes) (h : ¬ note + 12 * (k : Int) ∈ notes) : placeFrom notes note (f + 1) k = placeFrom notes note f (k + 1) := by
  conv => lhs; unfold placeFrom placeAt
  rw [if_neg h1, if_neg h]
def SetIn (notes : List Int) : Prop := ∀ x ∈ notes, 0 ≤ x ∧ x ≤ 127
theorem pf_out {notes : List Int} {note : Int} (h : SetIn notes) (h1 : -24 ≤ note) (h2 : note ≤ 151) : placeFrom notes note 2 15 = -1 := by
  have a1 : ¬ note - 12 * ((15 : Nat) : Int) ∈ notes := fun m => by have := h _ m; omega
  have a2 : ¬ note + 12 * ((15 : Nat) : Int) ∈ notes := fun m => by have := h _ m; omega
  have b1 : ¬ note - 12 * ((16 : Nat) : Int) ∈ notes := fun m => by have := h _ m; omega
  have b2 : ¬ note + 12 * ((16 : Nat) : Int) ∈ notes := fun m => by have := h _ m; omega
  rw [pf_no a1 a2, pf_no b1 b2]; rfl
theorem place_in (notes : List Int) (note : Int) : placeV notes note = -1 ∨ placeV notes note ∈ notes := by
  have : ∀ f k, placeFrom notes note f k = -1 ∨ placeFrom notes note f k ∈ notes := by
    intro f
    induction f with
    | zero => intro k; exact .inl rfl
    | succ f ih =>
      intro k
      by_cases h1 : note - 12 * (k : Int) ∈ notes
      · rw [pf_lo h1]; exact .inr h1
      · by_cases h2 : note + 12 * (k : Int) ∈ notes
        · rw [pf_hi h1 h2]; exact .inr h2
        · rw [pf_no h1 h2]; exact ih _
  exact this 17 0
theorem set_in {xs : List Int} (h : validSet xs = true) : SetIn xs := by
  intro x hx
  obtain ⟨k, hk, rfl⟩ := List.getElem_of_mem hx
  have : Rises 0 127 xs := by unfold validSet at h; simp at h; exact h.2
  have h1 := this k hk
  unfold RiseAt at h1
  simp [hk] at h1
  omega

set_option maxHeartbeats 1000000 in
theorem l26Place_any (v : Value) (notes : List Int) (note : Int) (w : World) (h : Ints w v notes) (h1 : -1000000 ≤ note) (h2 : note ≤ 1000000) :
    Calls Try.prog 73 #[v, .int .i64 note] w fun e w' => e = .returned (.int .i64 (placeV notes note)) ∧ Q w w' := by
  obtain ⟨a, ca, rfl, _, _, _⟩ := id h
  go_enter Try.func73, Try.ntmps73
  go_wp2_with fail
  go_loopw [5] (fun i wr => ∃ (k f : Nat), k + f = 17 ∧ i = .int .i64 (k : Int) ∧ placeV notes note = placeFrom notes note f k ∧ Q w wr) (fun i _ => 17 - (intOf i).toNat)
  case atStart => exact ⟨0, 17, rfl, by go_num, rfl, Q.refl _⟩
  case round =>
    obtain ⟨k, f, hk, rfl, hp, hq⟩ := hrel
    have HP := Lib.hid hp; clear hp
    rcases f with _ | f
    · have dk : decide ((k : Int) ≤ 16) = false := by simp; omega
      go_wp2
      go_ret
      exact ⟨ret_int HP.out.symm, hq⟩
    · have dk : decide ((k : Int) ≤ 16) = true := by simp; omega
      obtain ⟨m, hm⟩ : ∃ m : Int, m = 12 * (k : Int) := ⟨_, rfl⟩
      have w1' : IntKind.i64.wrap (12 * (k : Int)) = m := by rw [hm]; exact IntWalk.i64_in _ (by omega)
      have w2' : IntKind.i64.wrap (note - m) = note - m := IntWalk.i64_in _ (by omega)
      have w3' : IntKind.i64.wrap (note + m) = note + m := IntWalk.i64_in _ (by omega)
      have hi := h.q hq
      by_cases g1 : note - m ∈ notes
      · have HX := Lib.hid (show placeV notes note = note - m by rw [HP.out, hm]; exact pf_lo (by rw [← hm]; exact g1))
        have G := Lib.hid (show true = decide (note - m ∈ notes) by simpa using g1); clear g1 hm
        go_wp2_with fail
        refine (l00HasB_any true _ notes (note - m) _ hi G.out).mono ?_
        rintro e w1 ⟨rfl, hq1⟩
        go_wp2
        go_ret
        exact ⟨ret_int HX.out.symm, hq.trans hq1⟩
      · by_cases g2 : note + m ∈ notes
        · have HX := Lib.hid (show placeV notes note = note + m by rw [HP.out, hm]; exact pf_hi (by rw [← hm]; exact g1) (by rw [← hm]; exact g2))
          have G := Lib.hid (show false = decide (note - m ∈ notes) by simpa using g1); have G2 := Lib.hid (show true = decide (note + m ∈ notes) by simpa using g2); clear g1 g2 hm
          go_wp2_with fail
          refine (l00HasB_any false _ notes (note - m) _ hi G.out).mono ?_
          rintro e w1 ⟨rfl, hq1⟩
          go_wp2_with fail
          refine (l00HasB_any true _ notes (note + m) _ (hi.q hq1) G2.out).mono ?_
          rintro e w2 ⟨rfl, hq2⟩
          go_wp2
          go_ret
          exact ⟨ret_int HX.out.symm, (hq.trans hq1).trans hq2⟩
        · have HX := Lib.hid (show placeV notes note = placeFrom notes note f (k + 1) by rw [HP.out]; exact pf_no (by rw [← hm]; exact g1) (by rw [← hm]; exact g2))
          have G := Lib.hid (show false = decide (note - m ∈ notes) by simpa using g1); have G2 := Lib.hid (show false = decide (note + m ∈ notes) by simpa using g2); clear g1 g2 hm
          go_wp2_with fail
          refine (l00HasB_any false _ notes (note - m) _ hi G.out).mono ?_
          rintro e w1 ⟨rfl, hq1⟩
          go_wp2_with fail
          refine (l00HasB_any false _ notes (note + m) _ (hi.q hq1) G2.out).mono ?_
          rintro e w2 ⟨rfl, hq2⟩
          go_wp2
          go_roundw
          case rel => exact ⟨k + 1, f, by omega, by go_num, HX.out, (hq.trans hq1).trans hq2⟩
          case measure => simp [intOf] <;> omega

set_option maxHeartbeats 2000000 in
theorem placeNote_any (v : Value) (notes : List Int) (note : Int) (w : World) (h : Ints w v notes) (hn : SetIn notes) (h1 : -24 ≤ note) (h2 : note ≤ 151) :
    Calls Try.prog 63 #[v, .int .i64 note] w fun e w' => e = .returned (.int .i64 (placeV notes note)) ∧ Below w.heap.size w w' := by
  obtain ⟨a, ca, rfl, _, _, _⟩ := id h
  have HN := Lib.hid hn; clear hn
  go_enter Try.func63, Try.ntmps63
  go_wp2_with fail
  go_loopw [5, 7, 18, 19, 20] (fun d _ _ _ _ wr => ∃ (k f : Nat) (dd : Int), k + f = 15 ∧ dd = 12 * (k : Int) ∧ d = .int .i64 dd ∧ placeV notes note = placeFrom notes note (f + 2) k ∧ Below w.heap.size w wr) (fun d _ _ _ _ _ => 180 - (intOf d).toNat)
  case atStart => exact ⟨0, 15, 0, rfl, rfl, rfl, rfl, Below.refl _ _⟩
  case round =>
    obtain ⟨k, f, dd, hk, hdd, rfl, hp, hb⟩ := hrel
    have HP := Lib.hid hp; have HDD := Lib.hid hdd; clear hp
    rcases f with _ | f
    · have dk : decide (dd ≤ 175) = false := by simp; omega
      have HX := Lib.hid (show placeV notes note = -1 by rw [HP.out, show k = 15 by omega]; exact pf_out HN.out h1 h2)
      go_wp2
      go_ret
      exact ⟨ret_int HX.out.symm, hb⟩
    · have dk : decide (dd ≤ 175) = true := by simp; omega
      have w2' : IntKind.i64.wrap (note - dd) = note - dd := IntWalk.i64_in _ (by omega)
      have w3' : IntKind.i64.wrap (note + dd) = note + dd := IntWalk.i64_in _ (by omega)
      have w4' : IntKind.i64.wrap (dd + 12) = dd + 12 := IntWalk.i64_in _ (by omega)
      have hd0 : 0 ≤ dd := by omega
      have hd1 : dd ≤ 168 := by omega
      have hi := Ints.mono h hb
      have HB := Lib.hid hb
      obtain ⟨wo, rfl⟩ : ∃ wo : World, wo = wr := ⟨_, rfl⟩
      clear hb hdd
      go_wp2_with fail
      go_loopw [20, 7] (fun i _ wr => ∃ j : Nat, j ≤ 2 ∧ i = .int .i64 (j : Int) ∧ (1 ≤ j → ¬ note - dd ∈ notes) ∧ (2 ≤ j → ¬ note + dd ∈ notes) ∧ Below wo.heap.size wo wr ∧ wr.cell? ⟨wo.heap.size, 0, none⟩ = some (.int .i64 (note - dd)) ∧ wr.cell? ⟨wo.heap.size, 1, none⟩ = some (.int .i64 (note + dd))) (fun i _ _ => 2 - (intOf i).toNat)
      case atStart => exact ⟨0, by omega, by go_num, fun h => by omega, fun h => by omega, by (repeat (first | with_reducible exact Below.refl _ _ | with_reducible exact hbw | (with_reducible refine Below.setCell ?_ ?_ _; rotate_left; · first | exact Nat.le_refl _ | omega | (simp; done) | (simp; omega)) | (with_reducible refine Below.alloc ?_ ?_ _; rotate_left; · first | exact Nat.le_refl _ | omega | (simp; done) | (simp; omega)) | with_reducible refine below_drewN ?_ _ | with_reducible refine Below.drew ?_)), by simp [go_sem], by simp [go_sem]⟩
      case round =>
        obtain ⟨j, hj, rfl, n1, n2, hb2, c0, c1⟩ := hrel
        have N1 := Lib.hid n1; have N2 := Lib.hid n2; clear n1 n2
        have hi2 := Ints.mono hi hb2
        have hz2 := hb2.size
        have HB2 := Lib.hid (HB.out.trans (hb2.mono HB.out.size))
        rcases j with _ | _ | j
        · by_cases g : note - dd ∈ notes
          · have HX := Lib.hid (show placeV notes note = note - dd by rw [HP.out, HDD.out]; exact pf_lo (by rw [← HDD.out]; exact g))
            have G := Lib.hid (show true = decide (note - dd ∈ notes) by simpa using g); clear g
            go_wp2_with fail
            refine (containsI_any true _ notes (note - dd) _ hi2 G.out).mono ?_
            rintro e w1 ⟨rfl, hq1⟩
            go_wp2
            go_ret
            exact ⟨ret_int HX.out.symm, HB2.out.trans (hq1.below _)⟩
          · have G := Lib.hid (show false = decide (note - dd ∈ notes) by simpa using g)
            have GN := Lib.hid g; clear g
            go_wp2_with fail
            refine (containsI_any false _ notes (note - dd) _ hi2 G.out).mono ?_
            rintro e w1 ⟨rfl, hq1⟩
            have c0 := (hq1.cell _).trans c0
            have c1 := (hq1.cell _).trans c1
            go_wp2
            go_roundw
            case rel => exact ⟨1, by omega, by go_num, fun _ => GN.out, fun h => by omega, hb2.trans (hq1.below _), c0, c1⟩
            case measure => simp [intOf] <;> omega
        · by_cases g : note + dd ∈ notes
          · have HX := Lib.hid (show placeV notes note = note + dd by rw [HP.out, HDD.out]; exact pf_hi (by rw [← HDD.out]; exact N1.out (by omega)) (by rw [← HDD.out]; exact g))
            have G := Lib.hid (show true = decide (note + dd ∈ notes) by simpa using g); clear g
            go_wp2_with fail
            refine (containsI_any true _ notes (note + dd) _ hi2 G.out).mono ?_
            rintro e w1 ⟨rfl, hq1⟩
            go_wp2
            go_ret
            exact ⟨ret_int HX.out.symm, HB2.out.trans (hq1.below _)⟩
          · have G := Lib.hid (show false = decide (note + dd ∈ notes) by simpa using g)
            have GN := Lib.hid g; clear g
            go_wp2_with fail
            refine (containsI_any false _ notes (note + dd) _ hi2 G.out).mono ?_
            rintro e w1 ⟨rfl, hq1⟩
            have c0 := (hq1.cell _).trans c0
            have c1 := (hq1.cell _).trans c1
            go_wp2
            go_roundw
            case rel => exact ⟨2, by omega, by go_num, fun _ => N1.out (by omega), fun _ => GN.out, hb2.trans (hq1.below _), c0, c1⟩
            case measure => simp [intOf] <;> omega
        · obtain rfl : j = 0 := by omega
          have HX := Lib.hid (show placeV notes note = placeFrom notes note (f + 2) (k + 1) by rw [HP.out]; exact pf_no (by rw [← HDD.out]; exact N1.out (by omega)) (by rw [← HDD.out]; exact N2.out (by omega)))
          go_wp2
          go_roundw
          case rel => exact ⟨k + 1, f, dd + 12, by omega, by rw [HDD.out]; omega, rfl, HX.out, HB2.out⟩
          case measure => simp [intOf] <;> omega

def pnIn (n : Int) : Prop := -24 ≤ n ∧ n ≤ 151
instance (n : Int) : Decidable (pnIn n) := by unfold pnIn; infer_instance
def pnV (notes : List Int) (n : Int) : Int := if validSet notes = true then if pnIn n then if placeV notes n < 0 then 0 else placeV notes n else 0 else 0
def pnC (notes : List Int) (n : Int) : Int := if validSet notes = true then if pnIn n then if placeV notes n < 0 then 3 else 0 else 2 else 1

set_option maxHeartbeats 1000000 in
theorem implPlaceNote_any (v : Value) (notes : List Int) (n : Int) (w : World) (h : RdInts w v notes) (ok : ∀ x ∈ notes, I64 x) (hs : notes.length ≤ 1048576) (_ : I64 n) :
    Calls Try.prog 27 #[v, .int .i64 n] w fun e w' => e = .returned (.tuple #[.int .i64 (pnV notes n), .int .i64 (pnC notes n)]) ∧ Below w.heap.size w w' := by
  have h : Ints w v notes := h
  unfold pnV pnC
  cases gs : validSet notes
  · have GS := Lib.hid gs; clear gs
    simp only [Bool.false_eq_true, if_false]
    go_enter Try.func27, Try.ntmps27
    go_wp2_with fail
    refine (implValidSet_any _ notes _ h).mono ?_
    rw [GS.out]
    rintro e w1 ⟨rfl, hq⟩
    go_wp2
    go_ret2
    exact ⟨rfl, hq.below _⟩
  · have GS := Lib.hid gs; clear gs
    simp only [if_true]
    by_cases gn : pnIn n
    · rw [if_pos gn, if_pos gn]
      obtain ⟨n1, n2⟩ := id gn
      have GN := Lib.hid gn; clear gn
      by_cases gp : placeV notes n < 0
      · have dp : decide (placeV notes n < 0) = true := by simpa using gp
        rw [if_pos gp, if_pos gp]
        clear gp
        go_enter Try.func27, Try.ntmps27
        go_wp2_with fail
        refine (implValidSet_any _ notes _ h).mono ?_
        rw [GS.out]
        rintro e w1 ⟨rfl, hq⟩
        go_wp2_with fail
        refine (within_any true _ _ _ _ (yesB GN.out)).mono ?_
        rintro e w2 ⟨rfl, rfl⟩
        go_wp2_with fail
        refine (placeNote_any _ notes n _ (h.q hq) (set_in GS.out) (by omega) (by omega)).mono ?_
        rintro e w3 ⟨rfl, hq2⟩
        go_wp2
        go_ret2
        exact ⟨rfl, (hq.below _).trans (hq2.mono (hq.below w.heap.size).size)⟩
      · have dp : decide (placeV notes n < 0) = false := by simpa using gp
        rw [if_neg gp, if_neg gp]
        clear gp
        go_enter Try.func27, Try.ntmps27
        go_wp2_with fail
        refine (implValidSet_any _ notes _ h).mono ?_
        rw [GS.out]
        rintro e w1 ⟨rfl, hq⟩
        go_wp2_with fail
        refine (within_any true _ _ _ _ (yesB GN.out)).mono ?_
        rintro e w2 ⟨rfl, rfl⟩
        go_wp2_with fail
        refine (placeNote_any _ notes n _ (h.q hq) (set_in GS.out) (by omega) (by omega)).mono ?_
        rintro e w3 ⟨rfl, hq2⟩
        go_wp2
        go_ret2
        exact ⟨rfl, (hq.below _).trans (hq2.mono (hq.below w.heap.size).size)⟩
    · rw [if_neg gn, if_neg gn]
      have GN := Lib.hid gn; clear gn
      go_enter Try.func27, Try.ntmps27
      go_wp2_with fail
      refine (implValidSet_any _ notes _ h).mono ?_
      rw [GS.out]
      rintro e w1 ⟨rfl, hq⟩
      go_wp2_with fail
      refine (within_any false _ _ _ _ (noB GN.out)).mono ?_
      rintro e w2 ⟨rfl, rfl⟩
      go_wp2
      go_ret2
      exact ⟨rfl, hq.below _⟩


end Go.Proofs.Ytemmnjokojgjaaa
