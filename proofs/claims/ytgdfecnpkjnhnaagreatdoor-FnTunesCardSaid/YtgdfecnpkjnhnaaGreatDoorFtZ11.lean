import Derived.Test.YtgdfecnpkjnhnaaGreatDoorFtZ10
import Derived.Test.YtgdfecnpkjnhnaaGreatDoorFtZ1
import Derived.Test.YtgdfecnpkjnhnaaGreatDoorFtZ8
import Derived.Test.YtgdfecnpkjnhnaaGreatDoorFtZ5
import Derived.Test.YtgdfecnpkjnhnaaGreatDoorFtZ9
import Derived.Lib.ItoaMem
import Derived.Lib.ItoaLen
import Derived.Lib.Join
import Derived.IntWalk
import Derived.Test.YtgdfecnpkjnhnaaGreatDoorFtZ4
/- Contracts of notesOf, NotesUsed and SoundingAt of both packages. -/
set_option linter.unusedSimpArgs false
set_option linter.unnecessarySimpa false
set_option linter.unusedVariables false
set_option maxRecDepth 100000
namespace Go.Proofs.YtgdfecnpkjnhnaaGreatDoor
open Go.RowKit

/-- The notes of the tones with a property. -/
def sel (p : Ton → Bool) (ts : List Ton) : List Int := (ts.filter p).map Ton.note
theorem sel_zero (p : Ton → Bool) (ts : List Ton) : sel p (ts.take 0) = [] := rfl
theorem sel_yes {p : Ton → Bool} {ts : List Ton} {k : Nat} (h : k < ts.length) (hp : p ts[k] = true) : sel p (ts.take (k + 1)) = sel p (ts.take k) ++ [ts[k].note] := by
  unfold sel; rw [List.take_succ_eq_append_getElem h, List.filter_append, List.map_append]; simp [hp]
theorem sel_no {p : Ton → Bool} {ts : List Ton} {k : Nat} (h : k < ts.length) (hp : p ts[k] = false) : sel p (ts.take (k + 1)) = sel p (ts.take k) := by
  unfold sel; rw [List.take_succ_eq_append_getElem h, List.filter_append, List.map_append]; simp [hp]
theorem sel_len (p : Ton → Bool) (ts : List Ton) (k : Nat) : (sel p (ts.take k)).length ≤ k := by
  unfold sel; rw [List.length_map]; exact Nat.le_trans (List.length_filter_le _ _) (List.length_take_le _ _)
theorem sel_all (p : Ton → Bool) (ts : List Ton) {k : Nat} (h : ts.length ≤ k) : sel p (ts.take k) = sel p ts := by rw [List.take_of_length_le h]
theorem notesOfL_snoc (ns : List Int) (n : Int) : notesOfL (ns ++ [n]) = putI (notesOfL ns) n := by unfold notesOfL; rw [List.foldl_append]; rfl

def allT : Ton → Bool := fun _ => true
def soundT (at_ : Int) : Ton → Bool := fun x => decide (x.start ≤ at_) && decide (at_ < x.start + x.len)

theorem allT_any (x : Ton) (w : World) :
    Calls Tryz.prog 35 #[.agg #[.int .i64 x.note, .int .i64 x.start, .int .i64 x.len]] w fun e w' => e = .returned (.bool true) ∧ Below w.heap.size w w' := by
  go_enter Tryz.func35, Tryz.ntmps35
  go_wp2
  go_ret
  refine ⟨rfl, ?_⟩
  (repeat (first | with_reducible exact Below.refl _ _ | with_reducible exact hbw | (with_reducible refine Below.setCell ?_ ?_ _; rotate_left; · first | exact Nat.le_refl _ | omega | (simp; done) | (simp; omega)) | (with_reducible refine Below.alloc ?_ ?_ _; rotate_left; · first | exact Nat.le_refl _ | omega | (simp; done) | (simp; omega)) | with_reducible refine below_drewN ?_ _ | with_reducible refine Below.drew ?_))
theorem soundT_any (r : Bool) (x : Ton) (B : Nat) (n : Int) (w : World) (hB : w.cell? ⟨B, 0, none⟩ = some (.int .i64 n)) (hx : TonOk x) (hr : r = soundT n x) :
    Calls Tryz.prog 36 #[.agg #[.int .i64 x.note, .int .i64 x.start, .int .i64 x.len], .pointer (some ⟨B, 0, none⟩)] w fun e w' => e = .returned (.bool r) ∧ Below w.heap.size w w' := by
  have hlt := World.block_lt_of_cell? _ _ hB
  simp only at hlt
  have hlt1 : B < w.heap.size + 1 := by omega
  obtain ⟨f1, f2, f3, f4⟩ := hx.fits
  clear hx
  by_cases g1 : x.start ≤ n
  · have d1 : decide (x.start ≤ n) = true := by simpa using g1
    by_cases g2 : n < x.start + x.len
    · have d2 : decide (n < x.start + x.len) = true := by simpa using g2
      have H := Lib.hid (show r = true by rw [hr]; simp [soundT, g1, g2]); clear hr
      go_enter Tryz.func36, Tryz.ntmps36
      go_wp2
      go_ret
      refine ⟨ret_bool H.out.symm, ?_⟩
      (repeat (first | with_reducible exact Below.refl _ _ | with_reducible exact hbw | (with_reducible refine Below.setCell ?_ ?_ _; rotate_left; · first | exact Nat.le_refl _ | omega | (simp; done) | (simp; omega)) | (with_reducible refine Below.alloc ?_ ?_ _; rotate_left; · first | exact Nat.le_refl _ | omega | (simp; done) | (simp; omega)) | with_reducible refine below_drewN ?_ _ | with_reducible refine Below.drew ?_))
    · have d2 : decide (n < x.start + x.len) = false := by simpa using g2
      have H := Lib.hid (show r = false by rw [hr]; simp [soundT, g1]; omega); clear hr
      go_enter Tryz.func36, Tryz.ntmps36
      go_wp2
      go_ret
      refine ⟨ret_bool H.out.symm, ?_⟩
      (repeat (first | with_reducible exact Below.refl _ _ | with_reducible exact hbw | (with_reducible refine Below.setCell ?_ ?_ _; rotate_left; · first | exact Nat.le_refl _ | omega | (simp; done) | (simp; omega)) | (with_reducible refine Below.alloc ?_ ?_ _; rotate_left; · first | exact Nat.le_refl _ | omega | (simp; done) | (simp; omega)) | with_reducible refine below_drewN ?_ _ | with_reducible refine Below.drew ?_))
  · have d1 : decide (x.start ≤ n) = false := by simpa using g1
    have H := Lib.hid (show r = false by rw [hr]; simp [soundT, g1]); clear hr
    go_enter Tryz.func36, Tryz.ntmps36
    go_wp2
    go_ret
    refine ⟨ret_bool H.out.symm, ?_⟩
    (repeat (first | with_reducible exact Below.refl _ _ | with_reducible exact hbw | (with_reducible refine Below.setCell ?_ ?_ _; rotate_left; · first | exact Nat.le_refl _ | omega | (simp; done) | (simp; omega)) | (with_reducible refine Below.alloc ?_ ?_ _; rotate_left; · first | exact Nat.le_refl _ | omega | (simp; done) | (simp; omega)) | with_reducible refine below_drewN ?_ _ | with_reducible refine Below.drew ?_))

set_option maxHeartbeats 2000000 in
theorem notesAll_any (v lv : Value) (x : TunD) (w : World) (h : Tun w v lv x) (hs : x.tones.length ≤ 1048576) :
    Calls Tryz.prog 34 #[v, .func (.func 35) #[] #[]] w fun e w' => ∃ v', e = .returned v' ∧ OwnInts w.heap.size w'.heap.size w' v' (notesOfL (sel allT x.tones)) ∧ Below w.heap.size w w' := by
  obtain ⟨rfl, hlv⟩ := h
  obtain ⟨a, ca, rfl, hca, hcm, _⟩ := id hlv
  have hm : x.tones.length ≤ maxLen := by omega
  clear hca hcm
  unfold maxLen at hm
  go_enter Tryz.func34, Tryz.ntmps34
  go_wp2_with fail
  go_loopw [5, 11, 7, 17] (fun o i _ _ wr => ∃ (k : Nat) (a' : Option Addr) (c' : Nat), k ≤ x.tones.length ∧ i = .int .i64 k ∧ o = .slice a' (sel allT (x.tones.take k)).length c' ∧ wr.ownsRow w.heap.size 2 1 (.slice a' (sel allT (x.tones.take k)).length c') (sel allT (x.tones.take k)).length ((sel allT (x.tones.take k)).map (Value.int .i64)) ∧ Below w.heap.size w wr) (fun _ i _ _ _ => x.tones.length - (intOf i).toNat)
  case atStart => exact ⟨0, none, 0, Nat.zero_le _, rfl, rfl, owns_nil _ _ _ _, by (repeat (first | with_reducible exact Below.refl _ _ | with_reducible exact hbw | (with_reducible refine Below.setCell ?_ ?_ _; rotate_left; · first | exact Nat.le_refl _ | omega | (simp; done) | (simp; omega)) | (with_reducible refine Below.alloc ?_ ?_ _; rotate_left; · first | exact Nat.le_refl _ | omega | (simp; done) | (simp; omega)) | with_reducible refine below_drewN ?_ _ | with_reducible refine Below.drew ?_))⟩
  case round =>
    obtain ⟨k, a1, c1, hk, rfl, rfl, ho, hb⟩ := hrel
    by_cases hlt : k < x.tones.length
    · obtain ⟨b1, o1, rfl, hB1, u0, u1, u2⟩ := (hlv.mono hb).at hlt
      have l1 : b1 < wr.heap.size + 1 := by omega
      have S := Lib.hid (sel_yes (p := allT) hlt rfl)
      have hsl := sel_len allT x.tones k
      have hsz := hb.size
      go_wp2_with fail
      refine (allT_any x.tones[k] _).mono ?_
      rintro e w1 ⟨rfl, hb1⟩
      have y0 : w1.cell? ⟨wr.heap.size, 0, none⟩ = some (.int .i64 x.tones[k].note) := cellB hb1 (by simp [go_sem])
      have hz1 := World.block_lt_of_cell? _ _ y0
      simp only at hz1
      have hz2 : wr.heap.size < w1.heap.size + 1 := by omega
      have st : Below wr.heap.size wr w1 := Below.trans (by (repeat (first | with_reducible exact Below.refl _ _ | with_reducible exact hbw | (with_reducible refine Below.setCell ?_ ?_ _; rotate_left; · first | exact Nat.le_refl _ | omega | (simp; done) | (simp; omega)) | (with_reducible refine Below.alloc ?_ ?_ _; rotate_left; · first | exact Nat.le_refl _ | omega | (simp; done) | (simp; omega)) | with_reducible refine below_drewN ?_ _ | with_reducible refine Below.drew ?_))) (hb1.mono (by simp))
      have ho2 := owns_mono ho st
      have hb2 := hb.trans (st.mono hsz)
      have hsz2 := hb2.size
      clear hb1
      go_wp2_with (at_builtin; refine append_one rfl _ _ 38 rfl w.heap.size 2 (.int .i64 0) 1 8 Tryz.underlying38 info_int64 rfl (by decide) _ (sel allT (x.tones.take k)).length _ rfl ho2 [.int .i64 x.tones[k].note] rfl (by simp [Value.oneCell']) rfl (by omega) (by decide) hsz2 ?_)
      intro a' cap' w3 ho3 _ hb3
      go_wp2
      go_roundw
      case rel => exact ⟨k + 1, a', cap', by omega, by go_num, by rw [S.out]; simp, by rw [S.out]; simpa using ho3, hb2.trans hb3⟩
      case measure => simp [intOf] <;> omega
    · have E := Lib.hid (sel_all allT x.tones (show x.tones.length ≤ k by omega))
      rw [E.out] at ho
      have hsl := sel_len allT x.tones x.tones.length
      rw [sel_all _ _ (Nat.le_refl _)] at hsl
      obtain ⟨ns, hns⟩ : ∃ ns, ns = sel allT x.tones := ⟨_, rfl⟩
      rw [E.out]
      rw [← hns] at ho hsl ⊢
      clear E
      have HN := Lib.hid hns; clear hns
      have hsz := hb.size
      go_wp2_with fail
      refine (sortInts_any _ w.heap.size ns _ ho (by omega)).mono ?_
      rintro e w2 ⟨rfl, ho2, hg2⟩
      have hb2 : Below w.heap.size w w2 := hb.grown hg2 hsz (fun q hq => (ho.lt q hq).1)
      have hsz2 := hb2.size
      clear ho hg2
      go_wp2_with fail
      refine (compactInts_any _ w.heap.size ns.length (sortI ns) _ (sortI_len ns).symm ho2 (by rw [sortI_len]; omega)).mono ?_
      rintro e w3 ⟨v3, rfl, ho3, hg3, _⟩
      have hb3 : Below w.heap.size w w3 := hb2.grown hg3 hsz2 (fun q hq => (ho2.lt q hq).1)
      rw [notesOfL_eq, HN.out] at ho3
      go_wp2
      go_ret
      exact ⟨_, rfl, OwnRow.mk' ho3, hb3⟩

set_option maxHeartbeats 2000000 in
theorem notesAt_any (v lv : Value) (x : TunD) (B : Nat) (n : Int) (w : World) (h : Tun w v lv x) (hs : x.tones.length ≤ 1048576) (ok : TonesOk x.tones) (hB : w.cell? ⟨B, 0, none⟩ = some (.int .i64 n)) :
    Calls Tryz.prog 34 #[v, .func (.func 36) #[] #[.pointer (some ⟨B, 0, none⟩)]] w fun e w' => ∃ v', e = .returned v' ∧ OwnInts w.heap.size w'.heap.size w' v' (notesOfL (sel (soundT n) x.tones)) ∧ Below w.heap.size w w' := by
  have ok := Lib.hid ok
  obtain ⟨rfl, hlv⟩ := h
  obtain ⟨a, ca, rfl, hca, hcm, _⟩ := id hlv
  have hm : x.tones.length ≤ maxLen := by omega
  clear hca hcm
  unfold maxLen at hm
  go_enter Tryz.func34, Tryz.ntmps34
  go_wp2_with fail
  go_loopw [5, 11, 7, 17] (fun o i _ _ wr => ∃ (k : Nat) (a' : Option Addr) (c' : Nat), k ≤ x.tones.length ∧ i = .int .i64 k ∧ o = .slice a' (sel (soundT n) (x.tones.take k)).length c' ∧ wr.ownsRow w.heap.size 2 1 (.slice a' (sel (soundT n) (x.tones.take k)).length c') (sel (soundT n) (x.tones.take k)).length ((sel (soundT n) (x.tones.take k)).map (Value.int .i64)) ∧ Below w.heap.size w wr) (fun _ i _ _ _ => x.tones.length - (intOf i).toNat)
  case atStart => exact ⟨0, none, 0, Nat.zero_le _, rfl, rfl, owns_nil _ _ _ _, by (repeat (first | with_reducible exact Below.refl _ _ | with_reducible exact hbw | (with_reducible refine Below.setCell ?_ ?_ _; rotate_left; · first | exact Nat.le_refl _ | omega | (simp; done) | (simp; omega)) | (with_reducible refine Below.alloc ?_ ?_ _; rotate_left; · first | exact Nat.le_refl _ | omega | (simp; done) | (simp; omega)) | with_reducible refine below_drewN ?_ _ | with_reducible refine Below.drew ?_))⟩
  case round =>
    obtain ⟨k, a1, c1, hk, rfl, rfl, ho, hb⟩ := hrel
    by_cases hlt : k < x.tones.length
    · obtain ⟨b1, o1, rfl, hB1, u0, u1, u2⟩ := (hlv.mono hb).at hlt
      have l1 : b1 < wr.heap.size + 1 := by omega
      have uB := cellB hb hB
      have T := Lib.hid (ok.out k hlt hlt).1
      have hsl := sel_len (soundT n) x.tones k
      have hsz := hb.size
      by_cases g : soundT n x.tones[k] = true
      · have S := Lib.hid (sel_yes (p := soundT n) hlt g)
        have G := Lib.hid g.symm; clear g
        go_wp2_with fail
        refine (soundT_any true x.tones[k] B n _ (cellB (by (repeat (first | with_reducible exact Below.refl _ _ | with_reducible exact hbw | (with_reducible refine Below.setCell ?_ ?_ _; rotate_left; · first | exact Nat.le_refl _ | omega | (simp; done) | (simp; omega)) | (with_reducible refine Below.alloc ?_ ?_ _; rotate_left; · first | exact Nat.le_refl _ | omega | (simp; done) | (simp; omega)) | with_reducible refine below_drewN ?_ _ | with_reducible refine Below.drew ?_))) uB) T.out G.out).mono ?_
        rintro e w1 ⟨rfl, hb1⟩
        have y0 : w1.cell? ⟨wr.heap.size, 0, none⟩ = some (.int .i64 x.tones[k].note) := cellB hb1 (by simp [go_sem])
        have hz1 := World.block_lt_of_cell? _ _ y0
        simp only at hz1
        have hz2 : wr.heap.size < w1.heap.size + 1 := by omega
        have st : Below wr.heap.size wr w1 := Below.trans (by (repeat (first | with_reducible exact Below.refl _ _ | with_reducible exact hbw | (with_reducible refine Below.setCell ?_ ?_ _; rotate_left; · first | exact Nat.le_refl _ | omega | (simp; done) | (simp; omega)) | (with_reducible refine Below.alloc ?_ ?_ _; rotate_left; · first | exact Nat.le_refl _ | omega | (simp; done) | (simp; omega)) | with_reducible refine below_drewN ?_ _ | with_reducible refine Below.drew ?_))) (hb1.mono (by simp))
        have ho2 := owns_mono ho st
        have hb2 := hb.trans (st.mono hsz)
        have hsz2 := hb2.size
        clear hb1
        go_wp2_with (at_builtin; refine append_one rfl _ _ 38 rfl w.heap.size 2 (.int .i64 0) 1 8 Tryz.underlying38 info_int64 rfl (by decide) _ (sel (soundT n) (x.tones.take k)).length _ rfl ho2 [.int .i64 x.tones[k].note] rfl (by simp [Value.oneCell']) rfl (by omega) (by decide) hsz2 ?_)
        intro a' cap' w3 ho3 _ hb3
        go_wp2
        go_roundw
        case rel => exact ⟨k + 1, a', cap', by omega, by go_num, by rw [S.out]; simp, by rw [S.out]; simpa using ho3, hb2.trans hb3⟩
        case measure => simp [intOf] <;> omega
      · have g' : soundT n x.tones[k] = false := by simpa using g
        have S := Lib.hid (sel_no (p := soundT n) hlt g')
        have G := Lib.hid g'.symm; clear g g'
        go_wp2_with fail
        refine (soundT_any false x.tones[k] B n _ (cellB (by (repeat (first | with_reducible exact Below.refl _ _ | with_reducible exact hbw | (with_reducible refine Below.setCell ?_ ?_ _; rotate_left; · first | exact Nat.le_refl _ | omega | (simp; done) | (simp; omega)) | (with_reducible refine Below.alloc ?_ ?_ _; rotate_left; · first | exact Nat.le_refl _ | omega | (simp; done) | (simp; omega)) | with_reducible refine below_drewN ?_ _ | with_reducible refine Below.drew ?_))) uB) T.out G.out).mono ?_
        rintro e w1 ⟨rfl, hb1⟩
        have y0 : w1.cell? ⟨wr.heap.size, 0, none⟩ = some (.int .i64 x.tones[k].note) := cellB hb1 (by simp [go_sem])
        have hz1 := World.block_lt_of_cell? _ _ y0
        simp only at hz1
        have hz2 : wr.heap.size < w1.heap.size + 1 := by omega
        have st : Below wr.heap.size wr w1 := Below.trans (by (repeat (first | with_reducible exact Below.refl _ _ | with_reducible exact hbw | (with_reducible refine Below.setCell ?_ ?_ _; rotate_left; · first | exact Nat.le_refl _ | omega | (simp; done) | (simp; omega)) | (with_reducible refine Below.alloc ?_ ?_ _; rotate_left; · first | exact Nat.le_refl _ | omega | (simp; done) | (simp; omega)) | with_reducible refine below_drewN ?_ _ | with_reducible refine Below.drew ?_))) (hb1.mono (by simp))
        have ho2 := owns_mono ho st
        have hb2 := hb.trans (st.mono hsz)
        have hsz2 := hb2.size
        clear hb1
        go_wp2
        go_roundw
        case rel => exact ⟨k + 1, a1, c1, by omega, by go_num, by rw [S.out], by rw [S.out]; exact ho2, hb2⟩
        case measure => simp [intOf] <;> omega
    · have E := Lib.hid (sel_all (soundT n) x.tones (show x.tones.length ≤ k by omega))
      rw [E.out] at ho
      have hsl := sel_len (soundT n) x.tones x.tones.length
      rw [sel_all _ _ (Nat.le_refl _)] at hsl
      obtain ⟨ns, hns⟩ : ∃ ns, ns = sel (soundT n) x.tones := ⟨_, rfl⟩
      rw [E.out]
      rw [← hns] at ho hsl ⊢
      clear E
      have HN := Lib.hid hns; clear hns
      have hsz := hb.size
      go_wp2_with fail
      refine (sortInts_any _ w.heap.size ns _ ho (by omega)).mono ?_
      rintro e w2 ⟨rfl, ho2, hg2⟩
      have hb2 : Below w.heap.size w w2 := hb.grown hg2 hsz (fun q hq => (ho.lt q hq).1)
      have hsz2 := hb2.size
      clear ho hg2
      go_wp2_with fail
      refine (compactInts_any _ w.heap.size ns.length (sortI ns) _ (sortI_len ns).symm ho2 (by rw [sortI_len]; omega)).mono ?_
      rintro e w3 ⟨v3, rfl, ho3, hg3, _⟩
      have hb3 : Below w.heap.size w w3 := hb2.grown hg3 hsz2 (fun q hq => (ho2.lt q hq).1)
      rw [notesOfL_eq, HN.out] at ho3
      go_wp2
      go_ret
      exact ⟨_, rfl, OwnRow.mk' ho3, hb3⟩

noncomputable def usedV (x : TunD) : List Int := if validTunB x then notesOfL (sel allT x.tones) else []
def timeOk (t : Int) : Prop := 0 ≤ t ∧ t ≤ 20000
instance (t : Int) : Decidable (timeOk t) := by unfold timeOk; infer_instance
noncomputable def soundV (x : TunD) (t : Int) : List Int := if validTunB x then (if timeOk t then notesOfL (sel (soundT t) x.tones) else []) else []
noncomputable def soundC (x : TunD) (t : Int) : Int := if validTunB x then (if timeOk t then 0 else 2) else 1
theorem used_len (x : TunD) (h : x.tones.length ≤ 1048576) : (usedV x).length ≤ 1048576 := by
  unfold usedV; split
  · have := notesOfL_len (sel allT x.tones); have := sel_len allT x.tones x.tones.length; rw [sel_all _ _ (Nat.le_refl _)] at this; omega
  · simp
theorem sound_len (x : TunD) (t : Int) (h : x.tones.length ≤ 1048576) : (soundV x t).length ≤ 1048576 := by
  unfold soundV; split
  · split
    · have := notesOfL_len (sel (soundT t) x.tones); have := sel_len (soundT t) x.tones x.tones.length; rw [sel_all _ _ (Nat.le_refl _)] at this; omega
    · simp
  · simp
theorem used_yes {x : TunD} (h : validTunB x = true) : usedV x = notesOfL (sel allT x.tones) ∧ tuneEndC x = 0 := by unfold usedV tuneEndC; rw [h]; exact ⟨rfl, rfl⟩
theorem used_no {x : TunD} (h : validTunB x = false) : usedV x = [] ∧ tuneEndC x = 1 := by unfold usedV tuneEndC; rw [h]; exact ⟨rfl, rfl⟩
theorem sound_yes {x : TunD} {t : Int} (h : validTunB x = true) (ht : timeOk t) : soundV x t = notesOfL (sel (soundT t) x.tones) ∧ soundC x t = 0 := by unfold soundV soundC; rw [h, if_pos rfl, if_pos rfl, if_pos ht, if_pos ht]; exact ⟨rfl, rfl⟩
theorem sound_rng {x : TunD} {t : Int} (h : validTunB x = true) (ht : ¬ timeOk t) : soundV x t = [] ∧ soundC x t = 2 := by unfold soundV soundC; rw [h, if_pos rfl, if_pos rfl, if_neg ht, if_neg ht]; exact ⟨rfl, rfl⟩
theorem sound_no {x : TunD} {t : Int} (h : validTunB x = false) : soundV x t = [] ∧ soundC x t = 1 := by unfold soundV soundC; rw [h]; exact ⟨rfl, rfl⟩

theorem implNotesUsed_any (v : Value) (x : TunD) (w : World) (h : RdTun w v x) (ok : x.ok) (hs : x.tones.length ≤ 1048576) :
    Calls Tryz.prog 13 #[v] w fun e w' => ∃ v', e = .returned (.tuple #[v', .int .i64 (tuneEndC x)]) ∧ OwnInts w.heap.size w'.heap.size w' v' (usedV x) ∧ Below w.heap.size w w' := by
  obtain ⟨lv, rfl, hlv⟩ := h
  cases g : validTunB x
  · obtain ⟨e1, e2⟩ := used_no g
    have GV := Lib.hid g; clear g
    rw [e1, e2]; clear e1 e2
    go_enter Tryz.func13, Tryz.ntmps13
    go_wp2_with fail
    refine (implValidTun_any _ lv x _ ⟨rfl, hlv.mono (by (repeat (first | with_reducible exact Below.refl _ _ | with_reducible exact hbw | (with_reducible refine Below.setCell ?_ ?_ _; rotate_left; · first | exact Nat.le_refl _ | omega | (simp; done) | (simp; omega)) | (with_reducible refine Below.alloc ?_ ?_ _; rotate_left; · first | exact Nat.le_refl _ | omega | (simp; done) | (simp; omega)) | with_reducible refine below_drewN ?_ _ | with_reducible refine Below.drew ?_)))⟩ ok.1).mono ?_
    rw [GV.out]
    rintro e w1 ⟨rfl, hb⟩
    have hbw : Below w.heap.size w w1 := Below.trans (by (repeat (first | with_reducible exact Below.refl _ _ | with_reducible exact hbw | (with_reducible refine Below.setCell ?_ ?_ _; rotate_left; · first | exact Nat.le_refl _ | omega | (simp; done) | (simp; omega)) | (with_reducible refine Below.alloc ?_ ?_ _; rotate_left; · first | exact Nat.le_refl _ | omega | (simp; done) | (simp; omega)) | with_reducible refine below_drewN ?_ _ | with_reducible refine Below.drew ?_))) (hb.mono (by simp <;> omega))
    go_wp2
    go_ret2
    exact ⟨_, rfl, OwnInts.nil _ _ _, hbw⟩
  · obtain ⟨e1, e2⟩ := used_yes g
    have GV := Lib.hid g; clear g
    rw [e1, e2]; clear e1 e2
    go_enter Tryz.func13, Tryz.ntmps13
    go_wp2_with fail
    refine (implValidTun_any _ lv x _ ⟨rfl, hlv.mono (by (repeat (first | with_reducible exact Below.refl _ _ | with_reducible exact hbw | (with_reducible refine Below.setCell ?_ ?_ _; rotate_left; · first | exact Nat.le_refl _ | omega | (simp; done) | (simp; omega)) | (with_reducible refine Below.alloc ?_ ?_ _; rotate_left; · first | exact Nat.le_refl _ | omega | (simp; done) | (simp; omega)) | with_reducible refine below_drewN ?_ _ | with_reducible refine Below.drew ?_)))⟩ ok.1).mono ?_
    rw [GV.out]
    rintro e w1 ⟨rfl, hb⟩
    have hbw : Below w.heap.size w w1 := Below.trans (by (repeat (first | with_reducible exact Below.refl _ _ | with_reducible exact hbw | (with_reducible refine Below.setCell ?_ ?_ _; rotate_left; · first | exact Nat.le_refl _ | omega | (simp; done) | (simp; omega)) | (with_reducible refine Below.alloc ?_ ?_ _; rotate_left; · first | exact Nat.le_refl _ | omega | (simp; done) | (simp; omega)) | with_reducible refine below_drewN ?_ _ | with_reducible refine Below.drew ?_))) (hb.mono (by simp <;> omega))
    have y0 : w1.cell? ⟨w.heap.size, 0, none⟩ = some (.string x.name) := cellB hb (by simp [go_sem])
    have y1 : w1.cell? ⟨w.heap.size, 1, none⟩ = some lv := cellB hb (by simp [go_sem])
    clear hb
    go_wp2_with fail
    refine (notesAll_any _ lv x _ ⟨rfl, hlv.mono hbw⟩ hs).mono ?_
    rintro e w2 ⟨v2, rfl, ho, hb2⟩
    have hbw2 := hbw.trans (hb2.mono hbw.size)
    have ho := ho.wide hbw.size (Nat.le_refl _)
    obtain ⟨a2, c2, rfl⟩ := ho.form
    go_wp2
    go_ret2
    exact ⟨_, rfl, ho, hbw2⟩

theorem implSoundingAt_any (v : Value) (x : TunD) (t : Int) (w : World) (h : RdTun w v x) (ok : x.ok) (hs : x.tones.length ≤ 1048576) (_ : I64 t) :
    Calls Tryz.prog 14 #[v, .int .i64 t] w fun e w' => ∃ v', e = .returned (.tuple #[v', .int .i64 (soundC x t)]) ∧ OwnInts w.heap.size w'.heap.size w' v' (soundV x t) ∧ Below w.heap.size w w' := by
  obtain ⟨lv, rfl, hlv⟩ := h
  cases g : validTunB x
  · obtain ⟨e1, e2⟩ := sound_no (t := t) g
    have GV := Lib.hid g; clear g
    rw [e1, e2]; clear e1 e2
    go_enter Tryz.func14, Tryz.ntmps14
    go_wp2_with fail
    refine (implValidTun_any _ lv x _ ⟨rfl, hlv.mono (by (repeat (first | with_reducible exact Below.refl _ _ | with_reducible exact hbw | (with_reducible refine Below.setCell ?_ ?_ _; rotate_left; · first | exact Nat.le_refl _ | omega | (simp; done) | (simp; omega)) | (with_reducible refine Below.alloc ?_ ?_ _; rotate_left; · first | exact Nat.le_refl _ | omega | (simp; done) | (simp; omega)) | with_reducible refine below_drewN ?_ _ | with_reducible refine Below.drew ?_)))⟩ ok.1).mono ?_
    rw [GV.out]
    rintro e w1 ⟨rfl, hb⟩
    have hbw : Below w.heap.size w w1 := Below.trans (by (repeat (first | with_reducible exact Below.refl _ _ | with_reducible exact hbw | (with_reducible refine Below.setCell ?_ ?_ _; rotate_left; · first | exact Nat.le_refl _ | omega | (simp; done) | (simp; omega)) | (with_reducible refine Below.alloc ?_ ?_ _; rotate_left; · first | exact Nat.le_refl _ | omega | (simp; done) | (simp; omega)) | with_reducible refine below_drewN ?_ _ | with_reducible refine Below.drew ?_))) (hb.mono (by simp <;> omega))
    go_wp2
    go_ret2
    exact ⟨_, rfl, OwnInts.nil _ _ _, hbw⟩
  · by_cases gt : timeOk t
    · obtain ⟨e1, e2⟩ := sound_yes g gt
      have T := Lib.hid (validTunB_iff.1 g).tones
      have GV := Lib.hid g; clear g
      have GT := Lib.hid gt; clear gt
      rw [e1, e2]; clear e1 e2
      go_enter Tryz.func14, Tryz.ntmps14
      go_wp2_with fail
      refine (implValidTun_any _ lv x _ ⟨rfl, hlv.mono (by (repeat (first | with_reducible exact Below.refl _ _ | with_reducible exact hbw | (with_reducible refine Below.setCell ?_ ?_ _; rotate_left; · first | exact Nat.le_refl _ | omega | (simp; done) | (simp; omega)) | (with_reducible refine Below.alloc ?_ ?_ _; rotate_left; · first | exact Nat.le_refl _ | omega | (simp; done) | (simp; omega)) | with_reducible refine below_drewN ?_ _ | with_reducible refine Below.drew ?_)))⟩ ok.1).mono ?_
      rw [GV.out]
      rintro e w1 ⟨rfl, hb⟩
      have hbw : Below w.heap.size w w1 := Below.trans (by (repeat (first | with_reducible exact Below.refl _ _ | with_reducible exact hbw | (with_reducible refine Below.setCell ?_ ?_ _; rotate_left; · first | exact Nat.le_refl _ | omega | (simp; done) | (simp; omega)) | (with_reducible refine Below.alloc ?_ ?_ _; rotate_left; · first | exact Nat.le_refl _ | omega | (simp; done) | (simp; omega)) | with_reducible refine below_drewN ?_ _ | with_reducible refine Below.drew ?_))) (hb.mono (by simp <;> omega))
      have y0 : w1.cell? ⟨w.heap.size, 0, none⟩ = some (.string x.name) := cellB hb (by simp [go_sem])
      have y1 : w1.cell? ⟨w.heap.size, 1, none⟩ = some lv := cellB hb (by simp [go_sem])
      have y2 : w1.cell? ⟨w.heap.size + 1, 0, none⟩ = some (.int .i64 t) := cellB hb (by simp [go_sem])
      clear hb
      go_wp2_with fail
      refine (within_any true _ _ _ _ (yesB GT.out)).mono ?_
      rintro e w2 ⟨rfl, rfl⟩
      go_wp2_with fail
      refine (notesAt_any _ lv x (w.heap.size + 1) t _ ⟨rfl, hlv.mono hbw⟩ hs T.out y2).mono ?_
      rintro e w2 ⟨v2, rfl, ho, hb2⟩
      have hbw2 := hbw.trans (hb2.mono hbw.size)
      have ho := ho.wide hbw.size (Nat.le_refl _)
      obtain ⟨a2, c2, rfl⟩ := ho.form
      go_wp2
      go_ret2
      exact ⟨_, rfl, ho, hbw2⟩
    · obtain ⟨e1, e2⟩ := sound_rng g gt
      have GV := Lib.hid g; clear g
      have GT := Lib.hid gt; clear gt
      rw [e1, e2]; clear e1 e2
      go_enter Tryz.func14, Tryz.ntmps14
      go_wp2_with fail
      refine (implValidTun_any _ lv x _ ⟨rfl, hlv.mono (by (repeat (first | with_reducible exact Below.refl _ _ | with_reducible exact hbw | (with_reducible refine Below.setCell ?_ ?_ _; rotate_left; · first | exact Nat.le_refl _ | omega | (simp; done) | (simp; omega)) | (with_reducible refine Below.alloc ?_ ?_ _; rotate_left; · first | exact Nat.le_refl _ | omega | (simp; done) | (simp; omega)) | with_reducible refine below_drewN ?_ _ | with_reducible refine Below.drew ?_)))⟩ ok.1).mono ?_
      rw [GV.out]
      rintro e w1 ⟨rfl, hb⟩
      have hbw : Below w.heap.size w w1 := Below.trans (by (repeat (first | with_reducible exact Below.refl _ _ | with_reducible exact hbw | (with_reducible refine Below.setCell ?_ ?_ _; rotate_left; · first | exact Nat.le_refl _ | omega | (simp; done) | (simp; omega)) | (with_reducible refine Below.alloc ?_ ?_ _; rotate_left; · first | exact Nat.le_refl _ | omega | (simp; done) | (simp; omega)) | with_reducible refine below_drewN ?_ _ | with_reducible refine Below.drew ?_))) (hb.mono (by simp <;> omega))
      have y2 : w1.cell? ⟨w.heap.size + 1, 0, none⟩ = some (.int .i64 t) := cellB hb (by simp [go_sem])
      clear hb
      go_wp2_with fail
      refine (within_any false _ _ _ _ (noB GT.out)).mono ?_
      rintro e w2 ⟨rfl, rfl⟩
      go_wp2
      go_ret2
      exact ⟨_, rfl, OwnInts.nil _ _ _, hbw⟩

end Go.Proofs.YtgdfecnpkjnhnaaGreatDoor
/- What the law FnTunes asks of a drawn tune, plain. -/
set_option linter.unusedSimpArgs false
set_option linter.unnecessarySimpa false
set_option linter.unusedVariables false
set_option maxRecDepth 100000
namespace Go.Proofs.YtgdfecnpkjnhnaaGreatDoor
open Go.RowKit

theorem stc_valid {name : ByteArray} {d : List Ton} (hn : NameOk name) (hl : d.length ≤ 128) (h : Stc d) (ho : ∀ y ∈ d, TonOk y) : validTunB ⟨name, d⟩ = true := by
  refine validTunB_iff.2 ⟨hn, hl, fun k hk hk2 => ⟨ho _ (List.getElem_mem hk), fun h0 => ?_⟩⟩
  exact List.pairwise_iff_getElem.1 h (k - 1) k (by simp only at hk; omega) hk (by omega)
theorem stc_srt {d : List Ton} (h : Stc d) : Srt d := h.imp fun hb => leT_of hb
theorem to_same {name : ByteArray} {d : List Ton} (hn : NameOk name) (hl : d.length ≤ 128) (h : Stc d) (ho : ∀ y ∈ d, TonOk y) : toV name d = ⟨name, d⟩ ∧ toC name d = 0 := to_yes (List.Perm.refl d) (stc_srt h) (stc_valid hn hl h ho)

theorem fn_trans {x : TunD} {b : Int} (h : drawTun x) (h0 : -20 ≤ b) (h1 : b ≤ 20) :
    trV x b = ⟨x.name, x.tones.map (trF b)⟩ ∧ trC x b = 0 ∧ validTunB ⟨x.name, x.tones.map (trF b)⟩ = true ∧ trV ⟨x.name, x.tones.map (trF b)⟩ (-b) = x ∧ trC ⟨x.name, x.tones.map (trF b)⟩ (-b) = 0 := by
  obtain ⟨hv, h9, hd⟩ := h
  have ho := validTunB_iff.1 hv
  have hs := tones_stc ho.tones
  have hs1 : Stc (x.tones.map (trF b)) := by
    unfold Stc
    rw [List.pairwise_map]
    exact hs.imp fun hb => by unfold before at *; simp only [trF]; omega
  have ht1 : ∀ y ∈ x.tones.map (trF b), TonOk y := fun y hy => by
    obtain ⟨u, hu, rfl⟩ := List.mem_map.1 hy
    obtain ⟨a1, a2, a3⟩ := hd u hu
    refine (TonOk.iff' _).2 ⟨?_, ?_, ?_⟩ <;> simp only [trF, noteOk] <;> omega
  have hl1 : (x.tones.map (trF b)).length ≤ 128 := by rw [List.length_map]; omega
  have hv1 := stc_valid ho.name hl1 hs1 ht1
  obtain ⟨e1, e2⟩ := tr_yes (b := b) hv ⟨by omega, by omega⟩
  obtain ⟨f1, f2⟩ := tr_yes (b := -b) hv1 ⟨by omega, by omega⟩
  obtain ⟨g1, g2⟩ := to_same ho.name hl1 hs1 ht1
  have hback : (x.tones.map (trF b)).map (trF (-b)) = x.tones := by
    rw [List.map_map]
    conv => rhs; rw [← List.map_id x.tones]
    refine List.map_congr_left fun t ht => ?_
    cases t
    simp only [Function.comp, trF, id, Ton.mk.injEq, and_true]
    omega
  simp only [hback] at f1 f2
  have ht0 : ∀ y ∈ x.tones, TonOk y := fun y hy => draw_ok (hd y hy)
  obtain ⟨k1, k2⟩ := to_same ho.name (by omega : x.tones.length ≤ 128) hs ht0
  exact ⟨by rw [e1, g1], by rw [e2, g2], hv1, by rw [f1, k1], by rw [f2, k2]⟩

theorem fn_app {x y : TunD} {g : Int} (h : drawTun x) (h2 : drawTun y) (g0 : 0 ≤ g) (g1 : g ≤ 50) :
    apC x y g = 0 ∧ validTunB (apV x y g) = true ∧ (apV x y g).tones.length = x.tones.length + y.tones.length ∧ (apV x y g).tones.length ≤ 18 ∧ tuneEndC (apV x y g) = 0 ∧ tuneEndV x = endOf x.tones ∧ tuneEndV y = endOf y.tones ∧ (0 ≤ endOf x.tones ∧ endOf x.tones ≤ 20000) ∧ (0 ≤ endOf y.tones ∧ endOf y.tones ≤ 20000) ∧
      (0 < y.tones.length → tuneEndV (apV x y g) = endOf x.tones + g + endOf y.tones) ∧ (y.tones.length = 0 → tuneEndV (apV x y g) = endOf x.tones) := by
  obtain ⟨hv, h9, hd⟩ := h
  obtain ⟨hv2, h29, hd2⟩ := h2
  have ho := validTunB_iff.1 hv
  have ho2 := validTunB_iff.1 hv2
  obtain ⟨e1, e2⟩ := ap_yes hv hv2 (show gapIn g from ⟨g0, by omega⟩)
  obtain ⟨f1, f2⟩ := jo_yes (x := x) (y := y) (b := endOf x.tones + g) (show x.tones.length + y.tones.length ≤ 128 by omega)
  have hb := endOf_bd ho.tones
  have hb2 := endOf_bd ho2.tones
  have hx : endOf x.tones ≤ 1040 := by
    rcases endOf_at x.tones with e | ⟨t, ht, e⟩
    · omega
    · obtain ⟨a1, a2, a3⟩ := hd t ht; omega
  have hm : ∀ t ∈ joL x y (endOf x.tones + g), t ∈ x.tones ∨ ∃ u ∈ y.tones, shF (endOf x.tones + g) u = t := fun t ht => by
    rcases List.mem_append.1 ht with h | h
    · exact .inl h
    · exact .inr (List.mem_map.1 h)
  have hs : Stc (joL x y (endOf x.tones + g)) := by
    unfold Stc joL
    rw [List.pairwise_append]
    refine ⟨tones_stc ho.tones, ?_, fun a ha b hb => ?_⟩
    · rw [List.pairwise_map]
      exact (tones_stc ho2.tones).imp fun hb => by unfold before at *; simp only [shF]; omega
    · obtain ⟨u, hu, rfl⟩ := List.mem_map.1 hb
      have := endOf_ge ha
      obtain ⟨a1, a2, a3⟩ := hd a ha
      obtain ⟨b1, b2, b3⟩ := hd2 u hu
      unfold before
      simp only [shF]
      omega
  have ht : ∀ t ∈ joL x y (endOf x.tones + g), TonOk t := fun t h => by
    rcases hm t h with h | ⟨u, hu, rfl⟩
    · exact draw_ok (hd t h)
    · obtain ⟨b1, b2, b3⟩ := hd2 u hu
      refine (TonOk.iff' _).2 ⟨?_, ?_, ?_⟩ <;> simp only [shF, noteOk] <;> omega
  have hl : (joL x y (endOf x.tones + g)).length = x.tones.length + y.tones.length := by simp [joL]
  obtain ⟨k1, k2⟩ := to_same ho.name (by omega : (joL x y (endOf x.tones + g)).length ≤ 128) hs ht
  have hval := stc_valid ho.name (by omega : (joL x y (endOf x.tones + g)).length ≤ 128) hs ht
  have ev : apV x y g = ⟨x.name, joL x y (endOf x.tones + g)⟩ := by rw [e1, f1, k1]
  have ec : apC x y g = 0 := by rw [e2, f2, k2]
  have hend : tuneEndV (apV x y g) = endOf (joL x y (endOf x.tones + g)) := by rw [ev]; unfold tuneEndV; rw [if_pos hval]
  refine ⟨ec, by rw [ev]; exact hval, by rw [ev]; exact hl, by rw [ev]; simp only; omega, by rw [ev]; unfold tuneEndC; rw [if_pos hval], by unfold tuneEndV; rw [if_pos hv], by unfold tuneEndV; rw [if_pos hv2], hb, hb2, fun hp => ?_, fun hz => ?_⟩
  · rw [hend]
    have hge : endOf x.tones + g + endOf y.tones ≤ endOf (joL x y (endOf x.tones + g)) := by
      rcases endOf_at y.tones with e | ⟨t, ht, e⟩
      · have h1 := endOf_ge (List.getElem_mem hp)
        obtain ⟨b1, b2, b3⟩ := hd2 _ (List.getElem_mem hp)
        omega
      · have h1 := endOf_ge (xs := joL x y (endOf x.tones + g)) (t := shF (endOf x.tones + g) t) (List.mem_append.2 (.inr (List.mem_map.2 ⟨t, ht, rfl⟩)))
        simp only [shF] at h1
        omega
    rcases endOf_at (joL x y (endOf x.tones + g)) with e | ⟨t, ht, e⟩
    · omega
    · rcases hm t ht with h | ⟨u, hu, rfl⟩
      · have := endOf_ge h; omega
      · have := endOf_ge hu
        simp only [shF] at e
        omega
  · rw [hend]
    have : y.tones = [] := List.length_eq_zero_iff.1 hz
    simp [joL, this]

theorem strict_sub : ∀ (l2 l1 : List Int), Strict l1 → Strict l2 → (∀ x ∈ l1, x ∈ l2) → l1.length ≤ l2.length
  | [], l1, _, _, h => by
    cases l1 with
    | nil => simp
    | cons a ar => exact absurd (h a (List.mem_cons_self ..)) (by simp)
  | b :: bs, l1, s1, s2, h => by
    cases l1 with
    | nil => simp
    | cons a ar =>
      obtain ⟨p1, p2⟩ := List.pairwise_cons.1 s1
      obtain ⟨q1, q2⟩ := List.pairwise_cons.1 s2
      rcases List.mem_cons.1 (h a (List.mem_cons_self ..)) with rfl | hab
      · have := strict_sub bs ar p2 q2 fun x hx => by
          rcases List.mem_cons.1 (h x (List.mem_cons_of_mem _ hx)) with rfl | hh
          · have := p1 _ hx; omega
          · exact hh
        simp only [List.length_cons]; omega
      · have hlt := q1 a hab
        have := strict_sub bs (a :: ar) s1 q2 fun x hx => by
          rcases List.mem_cons.1 (h x hx) with rfl | hh
          · rcases List.mem_cons.1 hx with e | hx
            · omega
            · have := p1 _ hx; omega
          · exact hh
        simp only [List.length_cons] at *; omega

theorem runAt_same (xs : List Ton) : ∀ k : Nat, ∀ i : Nat, (k : Int) - runAt xs k ≤ i → i < k → startAt xs i = startAt xs (k - 1)
  | 0, i, _, h => by omega
  | k + 1, i, h1, h2 => by
    simp only [runAt] at h1
    simp only [Nat.add_sub_cancel]
    split at h1
    · have : i = k := by omega
      rw [this]
    · rename_i hn
      by_cases hk : i = k
      · rw [hk]
      · have h0 : 0 < k := by omega
        have hs : startAt xs k = startAt xs (k - 1) := Decidable.byContradiction fun hh => hn ⟨h0, hh⟩
        rw [hs]
        exact runAt_same xs k i (by omega) (by omega)
theorem used_mem {x : TunD} (h : validTunB x = true) (n : Int) : n ∈ usedV x ↔ ∃ t ∈ x.tones, t.note = n := by
  rw [(used_yes h).1, notesOfL_mem]
  simp [sel, allT]
theorem run_used {x : TunD} (h : validTunB x = true) {k : Nat} (hk : k ≤ x.tones.length) : runAt x.tones k ≤ (usedV x).length := by
  have ho := validTunB_iff.1 h
  have hs := tones_stc ho.tones
  obtain ⟨r0, r1⟩ := runAt_in x.tones k
  obtain ⟨r, hr⟩ : ∃ r : Nat, runAt x.tones k = r := ⟨(runAt x.tones k).toNat, by omega⟩
  have hsame := runAt_same x.tones k
  rw [hr] at hsame r1 ⊢
  have hl : ((x.tones.take k).drop (k - r)).length = r := by rw [List.length_drop, List.length_take]; omega
  have hat : ∀ i (hi : i < ((x.tones.take k).drop (k - r)).length), ((x.tones.take k).drop (k - r))[i] = x.tones[k - r + i]'(by omega) := fun i hi => by
    rw [List.getElem_drop, List.getElem_take]
  have hst : Strict (((x.tones.take k).drop (k - r)).map Ton.note) := by
    unfold Strict
    rw [List.pairwise_map]
    refine List.pairwise_iff_getElem.2 fun i j hi hj hij => ?_
    rw [hat i hi, hat j hj]
    have hb := List.pairwise_iff_getElem.1 hs (k - r + i) (k - r + j) (by omega) (by omega) (by omega)
    have e1 := hsame (k - r + i) (by omega) (by omega)
    have e2 := hsame (k - r + j) (by omega) (by omega)
    rw [startAt_eq (by omega)] at e1 e2
    unfold before at hb
    omega
  have := strict_sub (usedV x) _ hst (by rw [(used_yes h).1]; exact notesOfL_strict _) fun n hn => by
    obtain ⟨t, ht, rfl⟩ := List.mem_map.1 hn
    exact (used_mem h _).2 ⟨t, List.mem_of_mem_take (List.mem_of_mem_drop ht), rfl⟩
  rw [List.length_map, hl] at this
  omega
theorem used_le (x : TunD) : (usedV x).length ≤ x.tones.length := by
  unfold usedV
  split
  · refine Nat.le_trans (notesOfL_len _) ?_
    have := sel_len allT x.tones x.tones.length
    rwa [sel_all _ _ (Nat.le_refl _)] at this
  · simp
theorem most_used {x : TunD} (h : validTunB x = true) : 0 ≤ mostV x ∧ mostV x ≤ (usedV x).length := by
  unfold mostV
  rw [if_pos h]
  have : ∀ k : Nat, k ≤ x.tones.length → 0 ≤ mostAt x.tones k ∧ mostAt x.tones k ≤ (usedV x).length := fun k => by
    induction k with
    | zero => intro _; simp [mostAt]
    | succ k ih =>
      intro hk
      obtain ⟨i1, i2⟩ := ih (by omega)
      have := run_used h hk
      rw [mostAt_step]
      omega
  exact this _ (Nat.le_refl _)
theorem sound_used {x : TunD} {t : Int} (h : validTunB x = true) (h0 : 0 ≤ t) (h1 : t ≤ 20000) : soundC x t = 0 ∧ ∀ n ∈ soundV x t, n ∈ usedV x := by
  obtain ⟨e1, e2⟩ := sound_yes (t := t) h ⟨h0, h1⟩
  refine ⟨e2, fun n hn => ?_⟩
  rw [e1, notesOfL_mem] at hn
  rw [used_mem h]
  unfold sel at hn
  obtain ⟨u, hu, rfl⟩ := List.mem_map.1 hn
  exact ⟨u, (List.mem_filter.1 hu).1, rfl⟩
theorem fn_codes {x : TunD} (h : validTunB x = true) : tuneEndC x = 0 := by unfold tuneEndC; rw [if_pos h]
theorem fn_str {x : TunD} (h : validTunB x = true) : strV x 3 3 = x ∧ strC x 3 3 = 0 := by
  have ho := validTunB_iff.1 h
  obtain ⟨e1, e2⟩ := str_yes (n := 3) (d := 3) h ⟨⟨by omega, by omega⟩, ⟨by omega, by omega⟩⟩
  have ht : ∀ y ∈ x.tones, TonOk y := fun y hy => by
    obtain ⟨k, hk, rfl⟩ := List.getElem_of_mem hy
    exact (ho.tones k hk hk).1
  have e : x.tones.map (strF 3 3) = x.tones := by
    conv => rhs; rw [← List.map_id x.tones]
    refine List.map_congr_left fun t htt => ?_
    obtain ⟨a1, a2, a3⟩ := (TonOk.iff' _).1 (ht t htt)
    have d1 : (t.start * 3).tdiv 3 = t.start := Int.mul_tdiv_cancel _ (by omega)
    have d2 : ((t.start + t.len) * 3).tdiv 3 = t.start + t.len := Int.mul_tdiv_cancel _ (by omega)
    cases t
    simp only [strF, id, Ton.mk.injEq, true_and] at *
    rw [d1, d2]
    exact ⟨rfl, by omega⟩
  rw [e] at e1 e2
  obtain ⟨k1, k2⟩ := to_same ho.name ho.len (tones_stc ho.tones) ht
  exact ⟨by rw [e1, k1], by rw [e2, k2]⟩

end Go.Proofs.YtgdfecnpkjnhnaaGreatDoor
/- Decimal numerals, digit by digit. No program in sight. -/
set_option linter.unusedSimpArgs false
set_option linter.unnecessarySimpa false
set_option linter.unusedVariables false
set_option maxRecDepth 100000
namespace Go.Proofs.YtgdfecnpkjnhnaaGreatDoor
open Go.RowKit

/-- The digits of u, none for 0. -/
def decP (u : Nat) : List UInt8 := if u = 0 then [] else Lib.decDigits u
theorem decP_zero : decP 0 = [] := rfl
theorem decP_pos {u : Nat} (h : 0 < u) : decP u = decP (u / 10) ++ [UInt8.ofNat (48 + u % 10)] := by
  unfold decP
  rw [if_neg (by omega)]
  by_cases g : u < 10
  · rw [Lib.decDigits, dif_pos g, if_pos (by omega), Nat.mod_eq_of_lt g]; rfl
  · rw [Lib.decDigits, dif_neg g, if_neg (by omega)]
theorem decP_eq {u : Nat} (h : 0 < u) : decP u = Lib.decDigits u := by unfold decP; rw [if_neg (by omega)]
/-- u is left of a, its digits so far are ds, the last one first. -/
def Digs (a u : Nat) (ds : List UInt8) : Prop := decP u ++ ds.reverse = Lib.decDigits a
theorem Digs.start {a : Nat} (h : 0 < a) : Digs a a [] := by unfold Digs; rw [decP_eq h]; simp
theorem Digs.step {a u : Nat} {ds : List UInt8} (h : Digs a u ds) (hu : 0 < u) : Digs a (u / 10) (ds ++ [UInt8.ofNat (48 + u % 10)]) := by
  unfold Digs at *
  rw [decP_pos hu] at h
  rw [← h]; simp
theorem Digs.done {a : Nat} {ds : List UInt8} (h : Digs a 0 ds) : ds.reverse = Lib.decDigits a := by unfold Digs at h; rw [decP_zero] at h; simpa using h
theorem Digs.len {a u : Nat} {ds : List UInt8} (h : Digs a u ds) : ds.length ≤ (Lib.decDigits a).length := by
  unfold Digs at h
  have := congrArg List.length h
  simp at this; omega
theorem decDigits_len {n : Int} (h : I64 n) : (Lib.decDigits n.natAbs).length ≤ 21 := by
  have b := h.bd
  have := Lib.itoa_length_le n b.1 b.2
  unfold Lib.itoa at this
  split at this
  · simp at this; omega
  · have e : n.toNat = n.natAbs := by omega
    rwa [e] at this
theorem itoa_len {n : Int} (h : I64 n) : (Lib.itoa n).length ≤ 21 := Lib.itoa_length_le n h.bd.1 h.bd.2
theorem itoa_pos {n : Int} (h : 0 ≤ n) : Lib.itoa n = Lib.decDigits n.natAbs := by
  unfold Lib.itoa
  rw [if_neg (by omega), show n.toNat = n.natAbs by omega]
theorem itoa_negs {n : Int} (h : n < 0) : Lib.itoa n = 45 :: Lib.decDigits n.natAbs := by unfold Lib.itoa; rw [if_pos h]
theorem byteCells_eq (l : List UInt8) : Lib.byteCells l = l.map fun b => Value.int .u8 b.toNat := by first | rfl | simp [Lib.byteCells]
theorem byteCells_snoc (l : List UInt8) (b : UInt8) : Lib.byteCells (l ++ [b]) = Lib.byteCells l ++ [.int .u8 (b.toNat : Int)] := by simp [byteCells_eq]
theorem byteCells_len (l : List UInt8) : (Lib.byteCells l).length = l.length := by simp [byteCells_eq]
theorem ofNat_toNat {k : Nat} (h : k < 256) : (UInt8.ofNat k).toNat = k := by simp [UInt8.toNat_ofNat, Nat.mod_eq_of_lt h]

end Go.Proofs.YtgdfecnpkjnhnaaGreatDoor
/- The text of a list of numbers. No program in sight. -/
set_option linter.unusedSimpArgs false
set_option linter.unnecessarySimpa false
set_option linter.unusedVariables false
set_option maxRecDepth 100000
namespace Go.Proofs.YtgdfecnpkjnhnaaGreatDoor
open Go.RowKit

def bytesB (l : List UInt8) : ByteArray := ⟨l.toArray⟩
theorem bytesB_list (l : List UInt8) : (bytesB l).data.toList = l := by simp [bytesB]
theorem bytesB_inj {l m : List UInt8} (h : bytesB l = bytesB m) : l = m := by rw [← bytesB_list l, h, bytesB_list]
theorem bytesB_app (l m : List UInt8) : bytesB l ++ bytesB m = bytesB (l ++ m) := by
  apply ByteArray.ext
  simp [bytesB]
theorem bytesB_size (l : List UInt8) : (bytesB l).size = l.length := by simp [bytesB, ByteArray.size]
theorem bytesB_of (s : ByteArray) : bytesB s.data.toList = s := by cases s; simp [bytesB]
def decB (n : Int) : ByteArray := bytesB (Lib.itoa n)

def isVal (n : Int) : Prop := -1000000000000 ≤ n ∧ n ≤ 1000000000000
instance (n : Int) : Decidable (isVal n) := by unfold isVal; infer_instance
def valsB (xs : List Int) : Bool := decide (∀ n ∈ xs, isVal n)
def commaT (xs : List Int) : List UInt8 := Lib.join (xs.map Lib.itoa) [44]
theorem joinTail_snoc (sep : List UInt8) (r : List (List UInt8)) (y : List UInt8) : Lib.joinTail sep (r ++ [y]) = Lib.joinTail sep r ++ (sep ++ y) := by simp [Lib.joinTail]
theorem commaT_nil : commaT [] = [] := rfl
theorem commaT_one (x : Int) : commaT [x] = Lib.itoa x := by unfold commaT; rw [List.map_cons, List.map_nil, Lib.join_one]
theorem commaT_snoc {xs : List Int} (h : xs ≠ []) (x : Int) : commaT (xs ++ [x]) = commaT xs ++ [44] ++ Lib.itoa x := by
  cases xs with
  | nil => exact absurd rfl h
  | cons y ys =>
    unfold commaT
    rw [List.cons_append, List.map_cons, List.map_cons, Lib.join_cons, Lib.join_cons, List.map_append, List.map_cons, List.map_nil, joinTail_snoc]
    simp
theorem commaT_len (xs : List Int) (h : ∀ x ∈ xs, I64 x) : (commaT xs).length ≤ 22 * xs.length := by
  have key : ∀ k, k ≤ xs.length → (commaT (xs.take k)).length ≤ 22 * k := by
    intro k
    induction k with
    | zero => intro _; simp [commaT_nil]
    | succ k ih =>
      intro hk
      have hk' : k < xs.length := by omega
      rw [List.take_succ_eq_append_getElem hk']
      have hi := itoa_len (h _ (List.getElem_mem hk'))
      by_cases e : xs.take k = []
      · rw [e, List.nil_append, commaT_one]; omega
      · rw [commaT_snoc e]
        have := ih (by omega)
        simp only [List.length_append, List.length_cons, List.length_nil]
        omega
  have := key _ (Nat.le_refl _)
  rwa [List.take_length] at this
/-- The text of a list, as the reference writes it, whatever its numbers. -/
def listU (xs : List Int) : ByteArray := if xs = [] then bytesB [45] else bytesB (commaT xs)
/-- The text of a list that has one, else the empty one. -/
def listT (xs : List Int) : ByteArray := if xs.length ≤ 64 ∧ valsB xs = true then listU xs else bytesB []
theorem listT_yes {xs : List Int} (h : xs.length ≤ 64) (hv : valsB xs = true) : listT xs = listU xs := if_pos ⟨h, hv⟩
theorem listT_long {xs : List Int} (h : 64 < xs.length) : listT xs = bytesB [] := if_neg (by omega)
theorem listT_bad {xs : List Int} (hv : valsB xs = false) : listT xs = bytesB [] := if_neg (by rw [hv]; simp)
theorem i64_val {n : Int} (h : isVal n) : I64 n := by unfold isVal at h; simp only [I64, Lit.wf, IntKind.min, IntKind.max, IntKind.signed, IntKind.bits]; simp; omega

end Go.Proofs.YtgdfecnpkjnhnaaGreatDoor
/- The text of a tune. No program in sight. -/
set_option linter.unusedSimpArgs false
set_option linter.unnecessarySimpa false
set_option linter.unusedVariables false
set_option maxRecDepth 100000
namespace Go.Proofs.YtgdfecnpkjnhnaaGreatDoor
open Go.RowKit

/-- The names of the twelve notes. -/
def noteNames : List ByteArray := [⟨#[99]⟩, ⟨#[99, 115]⟩, ⟨#[100]⟩, ⟨#[100, 115]⟩, ⟨#[101]⟩, ⟨#[102]⟩, ⟨#[102, 115]⟩, ⟨#[103]⟩, ⟨#[103, 115]⟩, ⟨#[97]⟩, ⟨#[97, 115]⟩, ⟨#[98]⟩]
def nameAt (m : Nat) : ByteArray := noteNames.getD m ⟨#[]⟩
theorem bsize (s : ByteArray) : s.data.toList.length = s.size := by cases s; rfl
theorem lt12 {m : Nat} (h : m < 12) : m = 0 ∨ m = 1 ∨ m = 2 ∨ m = 3 ∨ m = 4 ∨ m = 5 ∨ m = 6 ∨ m = 7 ∨ m = 8 ∨ m = 9 ∨ m = 10 ∨ m = 11 := by omega
theorem nameAt_size {m : Nat} (h : m < 12) : (nameAt m).size ≤ 2 := by
  rcases lt12 h with rfl | rfl | rfl | rfl | rfl | rfl | rfl | rfl | rfl | rfl | rfl | rfl <;> decide
/-- The twelve names lie in a fresh box. -/
theorem nameAt_cell (w : World) (e : TypeId) {m : Nat} (h : m < 12) :
    (w.alloc (.cells #[.string ⟨#[99]⟩, .string ⟨#[99, 115]⟩, .string ⟨#[100]⟩, .string ⟨#[100, 115]⟩, .string ⟨#[101]⟩, .string ⟨#[102]⟩, .string ⟨#[102, 115]⟩, .string ⟨#[103]⟩, .string ⟨#[103, 115]⟩, .string ⟨#[97]⟩, .string ⟨#[97, 115]⟩, .string ⟨#[98]⟩] e)).cell? ⟨w.heap.size, m, none⟩ = some (.string (nameAt m)) := by
  rcases lt12 h with rfl | rfl | rfl | rfl | rfl | rfl | rfl | rfl | rfl | rfl | rfl | rfl <;> simp [go_sem] <;> rfl
/-- The name of a note. -/
def noteL (n : Nat) : List UInt8 := (nameAt (n % 12)).data.toList ++ Lib.itoa (((n / 12 : Nat) : Int) - 1)
def noteT (n : Nat) : ByteArray := bytesB (noteL n)
theorem noteT_eq (n : Nat) : nameAt (n % 12) ++ decB (((n / 12 : Nat) : Int) - 1) = noteT n := by
  unfold noteT noteL decB
  rw [← bytesB_app, bytesB_of]
theorem small64 {n : Int} (h : -1 ≤ n) (h2 : n ≤ 1000000000000) : I64 n := by simp only [I64, Lit.wf, IntKind.min, IntKind.max, IntKind.signed, IntKind.bits]; simp; omega
theorem noteL_len {n : Nat} (h : n ≤ 127) : (noteL n).length ≤ 23 := by
  unfold noteL
  have h1 := nameAt_size (m := n % 12) (by omega)
  have h2 := itoa_len (n := ((n / 12 : Nat) : Int) - 1) (small64 (by omega) (by omega))
  rw [List.length_append]
  have := bsize (nameAt (n % 12))
  omega
/-- The text of a tone. -/
def tonL (x : Ton) : List UInt8 := noteL x.note.toNat ++ [64] ++ Lib.itoa x.start ++ [43] ++ Lib.itoa x.len
theorem tonL_len {x : Ton} (h : x.note.toNat ≤ 127) (h1 : I64 x.start) (h2 : I64 x.len) : (tonL x).length ≤ 67 := by
  unfold tonL
  have := noteL_len h; have := itoa_len h1; have := itoa_len h2
  simp only [List.length_append, List.length_cons, List.length_nil]
  omega
theorem tonT_eq (x : Ton) : noteT x.note.toNat ++ (⟨#[64]⟩ : ByteArray) ++ decB x.start ++ (⟨#[43]⟩ : ByteArray) ++ decB x.len = bytesB (tonL x) := by
  unfold noteT decB tonL
  rw [show (⟨#[64]⟩ : ByteArray) = bytesB [64] from rfl, show (⟨#[43]⟩ : ByteArray) = bytesB [43] from rfl, bytesB_app, bytesB_app, bytesB_app, bytesB_app]
/-- The text of a name and tones. -/
def tunL (nm : ByteArray) (xs : List Ton) : List UInt8 := nm.data.toList ++ xs.flatMap fun t => 32 :: tonL t
theorem tunL_nil (nm : ByteArray) : bytesB (tunL nm []) = nm := by unfold tunL; simp [bytesB_of]
theorem tunL_snoc (nm : ByteArray) (xs : List Ton) (t : Ton) : tunL nm (xs ++ [t]) = tunL nm xs ++ ([32] ++ tonL t) := by unfold tunL; simp
theorem tunT_snoc (nm : ByteArray) (xs : List Ton) (t : Ton) : bytesB (tunL nm xs) ++ ((⟨#[32]⟩ : ByteArray) ++ noteT t.note.toNat ++ (⟨#[64]⟩ : ByteArray) ++ decB t.start ++ (⟨#[43]⟩ : ByteArray) ++ decB t.len) = bytesB (tunL nm (xs ++ [t])) := by
  rw [tunL_snoc]
  unfold noteT decB tonL
  rw [show (⟨#[32]⟩ : ByteArray) = bytesB [32] from rfl, show (⟨#[64]⟩ : ByteArray) = bytesB [64] from rfl, show (⟨#[43]⟩ : ByteArray) = bytesB [43] from rfl, bytesB_app, bytesB_app, bytesB_app, bytesB_app, bytesB_app, bytesB_app]
  simp [List.append_assoc]
theorem tunL_join (nm : ByteArray) (xs : List Ton) : Lib.join (nm.data.toList :: xs.map tonL) [32] = tunL nm xs := by
  rw [Lib.join_cons]
  unfold tunL
  simp [Lib.joinTail, List.flatMap_def, Function.comp_def]
theorem tunL_len (nm : ByteArray) (xs : List Ton) (h : ∀ x ∈ xs, x.note.toNat ≤ 127 ∧ I64 x.start ∧ I64 x.len) : (tunL nm xs).length ≤ nm.size + 68 * xs.length := by
  unfold tunL
  rw [List.length_append]
  have e := bsize nm
  rw [e]
  suffices (xs.flatMap fun t => 32 :: tonL t).length ≤ 68 * xs.length by omega
  clear e
  induction xs with
  | nil => simp
  | cons x xs ih =>
    have h1 := h x (by simp)
    have h2 := tonL_len h1.1 h1.2.1 h1.2.2
    have h3 := ih fun y hy => h y (by simp [hy])
    simp only [List.flatMap_cons, List.length_append, List.length_cons] at *
    omega
noncomputable def tunT (x : TunD) : ByteArray := if validTunB x then bytesB (tunL x.name x.tones) else bytesB []
theorem tunT_yes {x : TunD} (h : validTunB x = true) : tunT x = bytesB (tunL x.name x.tones) := by unfold tunT; rw [h]; rfl
theorem tunT_no {x : TunD} (h : validTunB x = false) : tunT x = bytesB [] := by unfold tunT; rw [h]; rfl

end Go.Proofs.YtgdfecnpkjnhnaaGreatDoor
