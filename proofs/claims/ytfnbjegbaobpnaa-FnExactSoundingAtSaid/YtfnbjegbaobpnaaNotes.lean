/- Contracts of notesOf, NotesUsed and SoundingAt of both packages. -/
import Derived.Test.YtfnbjegbaobpnaaPut
import Derived.Test.YtfnbjegbaobpnaaKInts
import Derived.Test.YtfnbjegbaobpnaaTuneEnd
set_option linter.unusedSimpArgs false
set_option linter.unnecessarySimpa false
set_option linter.unusedVariables false
set_option maxRecDepth 100000
namespace Go.Proofs.Ytfnbjegbaobpnaa
open Go.RowKit

/-- The notes of the tones with a property. -/
def sel (p : Ton → Bool) (ts : List Ton) : List Int := (ts.filter p).map Ton.note
theorem sel_zero (p : Ton → Bool) (ts : List Ton) : sel p (ts.take 0) = [] := rfl
theorem sel_yes {p : Ton → Bool} {ts : List Ton} {k : Nat} (h : k < ts.length) (hp : p ts[k] = true) : sel p (ts.take (k + 1)) = sel p (ts.take k) ++ [ts[k].note] := by
  unfold sel; rw [List.take_succ_eq_append_getElem h, List.filter_append, List.map_append]; simp [hp]
theorem sel_no {p : Ton → Bool} {ts : List Ton} {k : Nat} (h : k < ts.length) (hp : p ts[k] = false) : sel p (ts.take (k + 1)) = sel p (ts.take k) := by
  unfold sel; rw [List.take_succ_eq_append_getElem h, List.filter_append, List.map_append]; simp [hp]
theorem sel_len (p : Ton → Bool) (ts : List Ton) (k : Nat) : (sel p (ts.take k)).length ≤ k := by
  unfold sel; rw [List.length_map]; exact Nat.le_trans (List.length_filter_le _ _) (List.length_take_le _ _)
theorem sel_all (p : Ton → Bool) (ts : List Ton) {k : Nat} (h : ts.length ≤ k) : sel p (ts.take k) = sel p ts := by rw [List.take_of_length_le h]
theorem notesOfL_snoc (ns : List Int) (n : Int) : notesOfL (ns ++ [n]) = putI (notesOfL ns) n := by unfold notesOfL; rw [List.foldl_append]; rfl

def allT : Ton → Bool := fun _ => true
def soundT (at_ : Int) : Ton → Bool := fun x => decide (x.start ≤ at_) && decide (at_ < x.start + x.len)

theorem allT_any (x : Ton) (w : World) :
    Calls Try.prog 60 #[.agg #[.int .i64 x.note, .int .i64 x.start, .int .i64 x.len]] w fun e w' => e = .returned (.bool true) ∧ Below w.heap.size w w' := by
  go_enter Try.func60, Try.ntmps60
  go_wp2
  go_ret
  refine ⟨rfl, ?_⟩
  (repeat (first | with_reducible exact Below.refl _ _ | with_reducible exact hbw | (with_reducible refine Below.setCell ?_ ?_ _; rotate_left; · first | exact Nat.le_refl _ | omega | (simp; done) | (simp; omega)) | (with_reducible refine Below.alloc ?_ ?_ _; rotate_left; · first | exact Nat.le_refl _ | omega | (simp; done) | (simp; omega)) | with_reducible refine below_drewN ?_ _ | with_reducible refine Below.drew ?_))
theorem soundT_any (r : Bool) (x : Ton) (B : Nat) (n : Int) (w : World) (hB : w.cell? ⟨B, 0, none⟩ = some (.int .i64 n)) (hx : TonOk x) (hr : r = soundT n x) :
    Calls Try.prog 64 #[.agg #[.int .i64 x.note, .int .i64 x.start, .int .i64 x.len], .pointer (some ⟨B, 0, none⟩)] w fun e w' => e = .returned (.bool r) ∧ Below w.heap.size w w' := by
  have hlt := World.block_lt_of_cell? _ _ hB
  simp only at hlt
  have hlt1 : B < w.heap.size + 1 := by omega
  obtain ⟨f1, f2, f3, f4⟩ := hx.fits
  clear hx
  by_cases g1 : x.start ≤ n
  · have d1 : decide (x.start ≤ n) = true := by simpa using g1
    by_cases g2 : n < x.start + x.len
    · have d2 : decide (n < x.start + x.len) = true := by simpa using g2
      have H := Lib.hid (show r = true by rw [hr]; simp [soundT, g1, g2]); clear hr
      go_enter Try.func64, Try.ntmps64
      go_wp2
      go_ret
      refine ⟨ret_bool H.out.symm, ?_⟩
      (repeat (first | with_reducible exact Below.refl _ _ | with_reducible exact hbw | (with_reducible refine Below.setCell ?_ ?_ _; rotate_left; · first | exact Nat.le_refl _ | omega | (simp; done) | (simp; omega)) | (with_reducible refine Below.alloc ?_ ?_ _; rotate_left; · first | exact Nat.le_refl _ | omega | (simp; done) | (simp; omega)) | with_reducible refine below_drewN ?_ _ | with_reducible refine Below.drew ?_))
    · have d2 : decide (n < x.start + x.len) = false := by simpa using g2
      have H := Lib.hid (show r = false by rw [hr]; simp [soundT, g1]; omega); clear hr
      go_enter Try.func64, Try.ntmps64
      go_wp2
      go_ret
      refine ⟨ret_bool H.out.symm, ?_⟩
      (repeat (first | with_reducible exact Below.refl _ _ | with_reducible exact hbw | (with_reducible refine Below.setCell ?_ ?_ _; rotate_left; · first | exact Nat.le_refl _ | omega | (simp; done) | (simp; omega)) | (with_reducible refine Below.alloc ?_ ?_ _; rotate_left; · first | exact Nat.le_refl _ | omega | (simp; done) | (simp; omega)) | with_reducible refine below_drewN ?_ _ | with_reducible refine Below.drew ?_))
  · have d1 : decide (x.start ≤ n) = false := by simpa using g1
    have H := Lib.hid (show r = false by rw [hr]; simp [soundT, g1]); clear hr
    go_enter Try.func64, Try.ntmps64
    go_wp2
    go_ret
    refine ⟨ret_bool H.out.symm, ?_⟩
    (repeat (first | with_reducible exact Below.refl _ _ | with_reducible exact hbw | (with_reducible refine Below.setCell ?_ ?_ _; rotate_left; · first | exact Nat.le_refl _ | omega | (simp; done) | (simp; omega)) | (with_reducible refine Below.alloc ?_ ?_ _; rotate_left; · first | exact Nat.le_refl _ | omega | (simp; done) | (simp; omega)) | with_reducible refine below_drewN ?_ _ | with_reducible refine Below.drew ?_))

set_option maxHeartbeats 2000000 in
theorem notesAll_any (v lv : Value) (x : TunD) (w : World) (h : Tun w v lv x) (hs : x.tones.length ≤ 1048576) :
    Calls Try.prog 59 #[v, .func (.func 60) #[] #[]] w fun e w' => ∃ v', e = .returned v' ∧ OwnInts w.heap.size w'.heap.size w' v' (notesOfL (sel allT x.tones)) ∧ Below w.heap.size w w' := by
  obtain ⟨rfl, hlv⟩ := h
  obtain ⟨a, ca, rfl, hca, hcm, _⟩ := id hlv
  have hm : x.tones.length ≤ maxLen := by omega
  clear hca hcm
  unfold maxLen at hm
  go_enter Try.func59, Try.ntmps59
  go_wp2_with fail
  go_loopw [5, 11, 7, 17] (fun o i _ _ wr => ∃ (k : Nat) (a' : Option Addr) (c' : Nat), k ≤ x.tones.length ∧ i = .int .i64 k ∧ o = .slice a' (sel allT (x.tones.take k)).length c' ∧ wr.ownsRow w.heap.size 2 1 (.slice a' (sel allT (x.tones.take k)).length c') (sel allT (x.tones.take k)).length ((sel allT (x.tones.take k)).map (Value.int .i64)) ∧ Below w.heap.size w wr) (fun _ i _ _ _ => x.tones.length - (intOf i).toNat)
  case atStart => exact ⟨0, none, 0, Nat.zero_le _, rfl, rfl, owns_nil _ _ _ _, by (repeat (first | with_reducible exact Below.refl _ _ | with_reducible exact hbw | (with_reducible refine Below.setCell ?_ ?_ _; rotate_left; · first | exact Nat.le_refl _ | omega | (simp; done) | (simp; omega)) | (with_reducible refine Below.alloc ?_ ?_ _; rotate_left; · first | exact Nat.le_refl _ | omega | (simp; done) | (simp; omega)) | with_reducible refine below_drewN ?_ _ | with_reducible refine Below.drew ?_))⟩
  case round =>
    obtain ⟨k, a1, c1, hk, rfl, rfl, ho, hb⟩ := hrel
    by_cases hlt : k < x.tones.length
    · obtain ⟨b1, o1, rfl, hB1, u0, u1, u2⟩ := (hlv.mono hb).at hlt
      have l1 : b1 < wr.heap.size + 1 := by omega
      have S := Lib.hid (sel_yes (p := allT) hlt rfl)
      have hsl := sel_len allT x.tones k
      have hsz := hb.size
      go_wp2_with fail
      refine (allT_any x.tones[k] _).mono ?_
      rintro e w1 ⟨rfl, hb1⟩
      have y0 : w1.cell? ⟨wr.heap.size, 0, none⟩ = some (.int .i64 x.tones[k].note) := cellB hb1 (by simp [go_sem])
      have hz1 := World.block_lt_of_cell? _ _ y0
      simp only at hz1
      have hz2 : wr.heap.size < w1.heap.size + 1 := by omega
      have st : Below wr.heap.size wr w1 := Below.trans (by (repeat (first | with_reducible exact Below.refl _ _ | with_reducible exact hbw | (with_reducible refine Below.setCell ?_ ?_ _; rotate_left; · first | exact Nat.le_refl _ | omega | (simp; done) | (simp; omega)) | (with_reducible refine Below.alloc ?_ ?_ _; rotate_left; · first | exact Nat.le_refl _ | omega | (simp; done) | (simp; omega)) | with_reducible refine below_drewN ?_ _ | with_reducible refine Below.drew ?_))) (hb1.mono (by simp))
      have ho2 := owns_mono ho st
      have hb2 := hb.trans (st.mono hsz)
      have hsz2 := hb2.size
      clear hb1
      go_wp2_with (at_builtin; refine append_one rfl _ _ 36 rfl w.heap.size 2 (.int .i64 0) 1 8 Try.underlying36 info_int64 rfl (by decide) _ (sel allT (x.tones.take k)).length _ rfl ho2 [.int .i64 x.tones[k].note] rfl (by simp [Value.oneCell']) rfl (by omega) (by decide) hsz2 ?_)
      intro a' cap' w3 ho3 _ hb3
      go_wp2
      go_roundw
      case rel => exact ⟨k + 1, a', cap', by omega, by go_num, by rw [S.out]; simp, by rw [S.out]; simpa using ho3, hb2.trans hb3⟩
      case measure => simp [intOf] <;> omega
    · have E := Lib.hid (sel_all allT x.tones (show x.tones.length ≤ k by omega))
      rw [E.out] at ho
      have hsl := sel_len allT x.tones x.tones.length
      rw [sel_all _ _ (Nat.le_refl _)] at hsl
      obtain ⟨ns, hns⟩ : ∃ ns, ns = sel allT x.tones := ⟨_, rfl⟩
      rw [E.out]
      rw [← hns] at ho hsl ⊢
      clear E
      have HN := Lib.hid hns; clear hns
      have hsz := hb.size
      go_wp2_with fail
      refine (sortInts_any _ w.heap.size ns _ ho (by omega)).mono ?_
      rintro e w2 ⟨rfl, ho2, hg2⟩
      have hb2 : Below w.heap.size w w2 := hb.grown hg2 hsz (fun q hq => (ho.lt q hq).1)
      have hsz2 := hb2.size
      clear ho hg2
      go_wp2_with fail
      refine (compactInts_any _ w.heap.size ns.length (sortI ns) _ (sortI_len ns).symm ho2 (by rw [sortI_len]; omega)).mono ?_
      rintro e w3 ⟨v3, rfl, ho3, hg3, _⟩
      have hb3 : Below w.heap.size w w3 := hb2.grown hg3 hsz2 (fun q hq => (ho2.lt q hq).1)
      rw [notesOfL_eq, HN.out] at ho3
      go_wp2
      go_ret
      exact ⟨_, rfl, OwnRow.mk' ho3, hb3⟩

set_option maxHeartbeats 2000000 in
theorem notesAt_any (v lv : Value) (x : TunD) (B : Nat) (n : Int) (w : World) (h : Tun w v lv x) (hs : x.tones.length ≤ 1048576) (ok : TonesOk x.tones) (hB : w.cell? ⟨B, 0, none⟩ = some (.int .i64 n)) :
    Calls Try.prog 59 #[v, .func (.func 64) #[] #[.pointer (some ⟨B, 0, none⟩)]] w fun e w' => ∃ v', e = .returned v' ∧ OwnInts w.heap.size w'.heap.size w' v' (notesOfL (sel (soundT n) x.tones)) ∧ Below w.heap.size w w' := by
  have ok := Lib.hid ok
  obtain ⟨rfl, hlv⟩ := h
  obtain ⟨a, ca, rfl, hca, hcm, _⟩ := id hlv
  have hm : x.tones.length ≤ maxLen := by omega
  clear hca hcm
  unfold maxLen at hm
  go_enter Try.func59, Try.ntmps59
  go_wp2_with fail
  go_loopw [5, 11, 7, 17] (fun o i _ _ wr => ∃ (k : Nat) (a' : Option Addr) (c' : Nat), k ≤ x.tones.length ∧ i = .int .i64 k ∧ o = .slice a' (sel (soundT n) (x.tones.take k)).length c' ∧ wr.ownsRow w.heap.size 2 1 (.slice a' (sel (soundT n) (x.tones.take k)).length c') (sel (soundT n) (x.tones.take k)).length ((sel (soundT n) (x.tones.take k)).map (Value.int .i64)) ∧ Below w.heap.size w wr) (fun _ i _ _ _ => x.tones.length - (intOf i).toNat)
  case atStart => exact ⟨0, none, 0, Nat.zero_le _, rfl, rfl, owns_nil _ _ _ _, by (repeat (first | with_reducible exact Below.refl _ _ | with_reducible exact hbw | (with_reducible refine Below.setCell ?_ ?_ _; rotate_left; · first | exact Nat.le_refl _ | omega | (simp; done) | (simp; omega)) | (with_reducible refine Below.alloc ?_ ?_ _; rotate_left; · first | exact Nat.le_refl _ | omega | (simp; done) | (simp; omega)) | with_reducible refine below_drewN ?_ _ | with_reducible refine Below.drew ?_))⟩
  case round =>
    obtain ⟨k, a1, c1, hk, rfl, rfl, ho, hb⟩ := hrel
    by_cases hlt : k < x.tones.length
    · obtain ⟨b1, o1, rfl, hB1, u0, u1, u2⟩ := (hlv.mono hb).at hlt
      have l1 : b1 < wr.heap.size + 1 := by omega
      have uB := cellB hb hB
      have T := Lib.hid (ok.out k hlt hlt).1
      have hsl := sel_len (soundT n) x.tones k
      have hsz := hb.size
      by_cases g : soundT n x.tones[k] = true
      · have S := Lib.hid (sel_yes (p := soundT n) hlt g)
        have G := Lib.hid g.symm; clear g
        go_wp2_with fail
        refine (soundT_any true x.tones[k] B n _ (cellB (by (repeat (first | with_reducible exact Below.refl _ _ | with_reducible exact hbw | (with_reducible refine Below.setCell ?_ ?_ _; rotate_left; · first | exact Nat.le_refl _ | omega | (simp; done) | (simp; omega)) | (with_reducible refine Below.alloc ?_ ?_ _; rotate_left; · first | exact Nat.le_refl _ | omega | (simp; done) | (simp; omega)) | with_reducible refine below_drewN ?_ _ | with_reducible refine Below.drew ?_))) uB) T.out G.out).mono ?_
        rintro e w1 ⟨rfl, hb1⟩
        have y0 : w1.cell? ⟨wr.heap.size, 0, none⟩ = some (.int .i64 x.tones[k].note) := cellB hb1 (by simp [go_sem])
        have hz1 := World.block_lt_of_cell? _ _ y0
        simp only at hz1
        have hz2 : wr.heap.size < w1.heap.size + 1 := by omega
        have st : Below wr.heap.size wr w1 := Below.trans (by (repeat (first | with_reducible exact Below.refl _ _ | with_reducible exact hbw | (with_reducible refine Below.setCell ?_ ?_ _; rotate_left; · first | exact Nat.le_refl _ | omega | (simp; done) | (simp; omega)) | (with_reducible refine Below.alloc ?_ ?_ _; rotate_left; · first | exact Nat.le_refl _ | omega | (simp; done) | (simp; omega)) | with_reducible refine below_drewN ?_ _ | with_reducible refine Below.drew ?_))) (hb1.mono (by simp))
        have ho2 := owns_mono ho st
        have hb2 := hb.trans (st.mono hsz)
        have hsz2 := hb2.size
        clear hb1
        go_wp2_with (at_builtin; refine append_one rfl _ _ 36 rfl w.heap.size 2 (.int .i64 0) 1 8 Try.underlying36 info_int64 rfl (by decide) _ (sel (soundT n) (x.tones.take k)).length _ rfl ho2 [.int .i64 x.tones[k].note] rfl (by simp [Value.oneCell']) rfl (by omega) (by decide) hsz2 ?_)
        intro a' cap' w3 ho3 _ hb3
        go_wp2
        go_roundw
        case rel => exact ⟨k + 1, a', cap', by omega, by go_num, by rw [S.out]; simp, by rw [S.out]; simpa using ho3, hb2.trans hb3⟩
        case measure => simp [intOf] <;> omega
      · have g' : soundT n x.tones[k] = false := by simpa using g
        have S := Lib.hid (sel_no (p := soundT n) hlt g')
        have G := Lib.hid g'.symm; clear g g'
        go_wp2_with fail
        refine (soundT_any false x.tones[k] B n _ (cellB (by (repeat (first | with_reducible exact Below.refl _ _ | with_reducible exact hbw | (with_reducible refine Below.setCell ?_ ?_ _; rotate_left; · first | exact Nat.le_refl _ | omega | (simp; done) | (simp; omega)) | (with_reducible refine Below.alloc ?_ ?_ _; rotate_left; · first | exact Nat.le_refl _ | omega | (simp; done) | (simp; omega)) | with_reducible refine below_drewN ?_ _ | with_reducible refine Below.drew ?_))) uB) T.out G.out).mono ?_
        rintro e w1 ⟨rfl, hb1⟩
        have y0 : w1.cell? ⟨wr.heap.size, 0, none⟩ = some (.int .i64 x.tones[k].note) := cellB hb1 (by simp [go_sem])
        have hz1 := World.block_lt_of_cell? _ _ y0
        simp only at hz1
        have hz2 : wr.heap.size < w1.heap.size + 1 := by omega
        have st : Below wr.heap.size wr w1 := Below.trans (by (repeat (first | with_reducible exact Below.refl _ _ | with_reducible exact hbw | (with_reducible refine Below.setCell ?_ ?_ _; rotate_left; · first | exact Nat.le_refl _ | omega | (simp; done) | (simp; omega)) | (with_reducible refine Below.alloc ?_ ?_ _; rotate_left; · first | exact Nat.le_refl _ | omega | (simp; done) | (simp; omega)) | with_reducible refine below_drewN ?_ _ | with_reducible refine Below.drew ?_))) (hb1.mono (by simp))
        have ho2 := owns_mono ho st
        have hb2 := hb.trans (st.mono hsz)
        have hsz2 := hb2.size
        clear hb1
        go_wp2
        go_roundw
        case rel => exact ⟨k + 1, a1, c1, by omega, by go_num, by rw [S.out], by rw [S.out]; exact ho2, hb2⟩
        case measure => simp [intOf] <;> omega
    · have E := Lib.hid (sel_all (soundT n) x.tones (show x.tones.length ≤ k by omega))
      rw [E.out] at ho
      have hsl := sel_len (soundT n) x.tones x.tones.length
      rw [sel_all _ _ (Nat.le_refl _)] at hsl
      obtain ⟨ns, hns⟩ : ∃ ns, ns = sel (soundT n) x.tones := ⟨_, rfl⟩
      rw [E.out]
      rw [← hns] at ho hsl ⊢
      clear E
      have HN := Lib.hid hns; clear hns
      have hsz := hb.size
      go_wp2_with fail
      refine (sortInts_any _ w.heap.size ns _ ho (by omega)).mono ?_
      rintro e w2 ⟨rfl, ho2, hg2⟩
      have hb2 : Below w.heap.size w w2 := hb.grown hg2 hsz (fun q hq => (ho.lt q hq).1)
      have hsz2 := hb2.size
      clear ho hg2
      go_wp2_with fail
      refine (compactInts_any _ w.heap.size ns.length (sortI ns) _ (sortI_len ns).symm ho2 (by rw [sortI_len]; omega)).mono ?_
      rintro e w3 ⟨v3, rfl, ho3, hg3, _⟩
      have hb3 : Below w.heap.size w w3 := hb2.grown hg3 hsz2 (fun q hq => (ho2.lt q hq).1)
      rw [notesOfL_eq, HN.out] at ho3
      go_wp2
      go_ret
      exact ⟨_, rfl, OwnRow.mk' ho3, hb3⟩

noncomputable def usedV (x : TunD) : List Int := if validTunB x then notesOfL (sel allT x.tones) else []
def timeOk (t : Int) : Prop := 0 ≤ t ∧ t ≤ 20000
instance (t : Int) : Decidable (timeOk t) := by unfold timeOk; infer_instance
noncomputable def soundV (x : TunD) (t : Int) : List Int := if validTunB x then (if timeOk t then notesOfL (sel (soundT t) x.tones) else []) else []
noncomputable def soundC (x : TunD) (t : Int) : Int := if validTunB x then (if timeOk t then 0 else 2) else 1
theorem used_len (x : TunD) (h : x.tones.length ≤ 1048576) : (usedV x).length ≤ 1048576 := by
  unfold usedV; split
  · have := notesOfL_len (sel allT x.tones); have := sel_len allT x.tones x.tones.length; rw [sel_all _ _ (Nat.le_refl _)] at this; omega
  · simp
theorem sound_len (x : TunD) (t : Int) (h : x.tones.length ≤ 1048576) : (soundV x t).length ≤ 1048576 := by
  unfold soundV; split
  · split
    · have := notesOfL_len (sel (soundT t) x.tones); have := sel_len (soundT t) x.tones x.tones.length; rw [sel_all _ _ (Nat.le_refl _)] at this; omega
    · simp
  · simp
theorem used_yes {x : TunD} (h : validTunB x = true) : usedV x = notesOfL (sel allT x.tones) ∧ tuneEndC x = 0 := by unfold usedV tuneEndC; rw [h]; exact ⟨rfl, rfl⟩
theorem used_no {x : TunD} (h : validTunB x = false) : usedV x = [] ∧ tuneEndC x = 1 := by unfold usedV tuneEndC; rw [h]; exact ⟨rfl, rfl⟩
theorem sound_yes {x : TunD} {t : Int} (h : validTunB x = true) (ht : timeOk t) : soundV x t = notesOfL (sel (soundT t) x.tones) ∧ soundC x t = 0 := by unfold soundV soundC; rw [h, if_pos rfl, if_pos rfl, if_pos ht, if_pos ht]; exact ⟨rfl, rfl⟩
theorem sound_rng {x : TunD} {t : Int} (h : validTunB x = true) (ht : ¬ timeOk t) : soundV x t = [] ∧ soundC x t = 2 := by unfold soundV soundC; rw [h, if_pos rfl, if_pos rfl, if_neg ht, if_neg ht]; exact ⟨rfl, rfl⟩
theorem sound_no {x : TunD} {t : Int} (h : validTunB x = false) : soundV x t = [] ∧ soundC x t = 1 := by unfold soundV soundC; rw [h]; exact ⟨rfl, rfl⟩

theorem implNotesUsed_any (v : Value) (x : TunD) (w : World) (h : RdTun w v x) (ok : x.ok) (hs : x.tones.length ≤ 1048576) :
    Calls Try.prog 27 #[v] w fun e w' => ∃ v', e = .returned (.tuple #[v', .int .i64 (tuneEndC x)]) ∧ OwnInts w.heap.size w'.heap.size w' v' (usedV x) ∧ Below w.heap.size w w' := by
  obtain ⟨lv, rfl, hlv⟩ := h
  cases g : validTunB x
  · obtain ⟨e1, e2⟩ := used_no g
    have GV := Lib.hid g; clear g
    rw [e1, e2]; clear e1 e2
    go_enter Try.func27, Try.ntmps27
    go_wp2_with fail
    refine (implValidTun_any _ lv x _ ⟨rfl, hlv.mono (by (repeat (first | with_reducible exact Below.refl _ _ | with_reducible exact hbw | (with_reducible refine Below.setCell ?_ ?_ _; rotate_left; · first | exact Nat.le_refl _ | omega | (simp; done) | (simp; omega)) | (with_reducible refine Below.alloc ?_ ?_ _; rotate_left; · first | exact Nat.le_refl _ | omega | (simp; done) | (simp; omega)) | with_reducible refine below_drewN ?_ _ | with_reducible refine Below.drew ?_)))⟩ ok.1).mono ?_
    rw [GV.out]
    rintro e w1 ⟨rfl, hb⟩
    have hbw : Below w.heap.size w w1 := Below.trans (by (repeat (first | with_reducible exact Below.refl _ _ | with_reducible exact hbw | (with_reducible refine Below.setCell ?_ ?_ _; rotate_left; · first | exact Nat.le_refl _ | omega | (simp; done) | (simp; omega)) | (with_reducible refine Below.alloc ?_ ?_ _; rotate_left; · first | exact Nat.le_refl _ | omega | (simp; done) | (simp; omega)) | with_reducible refine below_drewN ?_ _ | with_reducible refine Below.drew ?_))) (hb.mono (by simp <;> omega))
    go_wp2
    go_ret2
    exact ⟨_, rfl, OwnInts.nil _ _ _, hbw⟩
  · obtain ⟨e1, e2⟩ := used_yes g
    have GV := Lib.hid g; clear g
    rw [e1, e2]; clear e1 e2
    go_enter Try.func27, Try.ntmps27
    go_wp2_with fail
    refine (implValidTun_any _ lv x _ ⟨rfl, hlv.mono (by (repeat (first | with_reducible exact Below.refl _ _ | with_reducible exact hbw | (with_reducible refine Below.setCell ?_ ?_ _; rotate_left; · first | exact Nat.le_refl _ | omega | (simp; done) | (simp; omega)) | (with_reducible refine Below.alloc ?_ ?_ _; rotate_left; · first | exact Nat.le_refl _ | omega | (simp; done) | (simp; omega)) | with_reducible refine below_drewN ?_ _ | with_reducible refine Below.drew ?_)))⟩ ok.1).mono ?_
    rw [GV.out]
    rintro e w1 ⟨rfl, hb⟩
    have hbw : Below w.heap.size w w1 := Below.trans (by (repeat (first | with_reducible exact Below.refl _ _ | with_reducible exact hbw | (with_reducible refine Below.setCell ?_ ?_ _; rotate_left; · first | exact Nat.le_refl _ | omega | (simp; done) | (simp; omega)) | (with_reducible refine Below.alloc ?_ ?_ _; rotate_left; · first | exact Nat.le_refl _ | omega | (simp; done) | (simp; omega)) | with_reducible refine below_drewN ?_ _ | with_reducible refine Below.drew ?_))) (hb.mono (by simp <;> omega))
    have y0 : w1.cell? ⟨w.heap.size, 0, none⟩ = some (.string x.name) := cellB hb (by simp [go_sem])
    have y1 : w1.cell? ⟨w.heap.size, 1, none⟩ = some lv := cellB hb (by simp [go_sem])
    clear hb
    go_wp2_with fail
    refine (notesAll_any _ lv x _ ⟨rfl, hlv.mono hbw⟩ hs).mono ?_
    rintro e w2 ⟨v2, rfl, ho, hb2⟩
    have hbw2 := hbw.trans (hb2.mono hbw.size)
    have ho := ho.wide hbw.size (Nat.le_refl _)
    obtain ⟨a2, c2, rfl⟩ := ho.form
    go_wp2
    go_ret2
    exact ⟨_, rfl, ho, hbw2⟩

theorem implSoundingAt_any (v : Value) (x : TunD) (t : Int) (w : World) (h : RdTun w v x) (ok : x.ok) (hs : x.tones.length ≤ 1048576) (_ : I64 t) :
    Calls Try.prog 33 #[v, .int .i64 t] w fun e w' => ∃ v', e = .returned (.tuple #[v', .int .i64 (soundC x t)]) ∧ OwnInts w.heap.size w'.heap.size w' v' (soundV x t) ∧ Below w.heap.size w w' := by
  obtain ⟨lv, rfl, hlv⟩ := h
  cases g : validTunB x
  · obtain ⟨e1, e2⟩ := sound_no (t := t) g
    have GV := Lib.hid g; clear g
    rw [e1, e2]; clear e1 e2
    go_enter Try.func33, Try.ntmps33
    go_wp2_with fail
    refine (implValidTun_any _ lv x _ ⟨rfl, hlv.mono (by (repeat (first | with_reducible exact Below.refl _ _ | with_reducible exact hbw | (with_reducible refine Below.setCell ?_ ?_ _; rotate_left; · first | exact Nat.le_refl _ | omega | (simp; done) | (simp; omega)) | (with_reducible refine Below.alloc ?_ ?_ _; rotate_left; · first | exact Nat.le_refl _ | omega | (simp; done) | (simp; omega)) | with_reducible refine below_drewN ?_ _ | with_reducible refine Below.drew ?_)))⟩ ok.1).mono ?_
    rw [GV.out]
    rintro e w1 ⟨rfl, hb⟩
    have hbw : Below w.heap.size w w1 := Below.trans (by (repeat (first | with_reducible exact Below.refl _ _ | with_reducible exact hbw | (with_reducible refine Below.setCell ?_ ?_ _; rotate_left; · first | exact Nat.le_refl _ | omega | (simp; done) | (simp; omega)) | (with_reducible refine Below.alloc ?_ ?_ _; rotate_left; · first | exact Nat.le_refl _ | omega | (simp; done) | (simp; omega)) | with_reducible refine below_drewN ?_ _ | with_reducible refine Below.drew ?_))) (hb.mono (by simp <;> omega))
    go_wp2
    go_ret2
    exact ⟨_, rfl, OwnInts.nil _ _ _, hbw⟩
  · by_cases gt : timeOk t
    · obtain ⟨e1, e2⟩ := sound_yes g gt
      have T := Lib.hid (validTunB_iff.1 g).tones
      have GV := Lib.hid g; clear g
      have GT := Lib.hid gt; clear gt
      rw [e1, e2]; clear e1 e2
      go_enter Try.func33, Try.ntmps33
      go_wp2_with fail
      refine (implValidTun_any _ lv x _ ⟨rfl, hlv.mono (by (repeat (first | with_reducible exact Below.refl _ _ | with_reducible exact hbw | (with_reducible refine Below.setCell ?_ ?_ _; rotate_left; · first | exact Nat.le_refl _ | omega | (simp; done) | (simp; omega)) | (with_reducible refine Below.alloc ?_ ?_ _; rotate_left; · first | exact Nat.le_refl _ | omega | (simp; done) | (simp; omega)) | with_reducible refine below_drewN ?_ _ | with_reducible refine Below.drew ?_)))⟩ ok.1).mono ?_
      rw [GV.out]
      rintro e w1 ⟨rfl, hb⟩
      have hbw : Below w.heap.size w w1 := Below.trans (by (repeat (first | with_reducible exact Below.refl _ _ | with_reducible exact hbw | (with_reducible refine Below.setCell ?_ ?_ _; rotate_left; · first | exact Nat.le_refl _ | omega | (simp; done) | (simp; omega)) | (with_reducible refine Below.alloc ?_ ?_ _; rotate_left; · first | exact Nat.le_refl _ | omega | (simp; done) | (simp; omega)) | with_reducible refine below_drewN ?_ _ | with_reducible refine Below.drew ?_))) (hb.mono (by simp <;> omega))
      have y0 : w1.cell? ⟨w.heap.size, 0, none⟩ = some (.string x.name) := cellB hb (by simp [go_sem])
      have y1 : w1.cell? ⟨w.heap.size, 1, none⟩ = some lv := cellB hb (by simp [go_sem])
      have y2 : w1.cell? ⟨w.heap.size + 1, 0, none⟩ = some (.int .i64 t) := cellB hb (by simp [go_sem])
      clear hb
      go_wp2_with fail
      refine (within_any true _ _ _ _ (yesB GT.out)).mono ?_
      rintro e w2 ⟨rfl, rfl⟩
      go_wp2_with fail
      refine (notesAt_any _ lv x (w.heap.size + 1) t _ ⟨rfl, hlv.mono hbw⟩ hs T.out y2).mono ?_
      rintro e w2 ⟨v2, rfl, ho, hb2⟩
      have hbw2 := hbw.trans (hb2.mono hbw.size)
      have ho := ho.wide hbw.size (Nat.le_refl _)
      obtain ⟨a2, c2, rfl⟩ := ho.form
      go_wp2
      go_ret2
      exact ⟨_, rfl, ho, hbw2⟩
    · obtain ⟨e1, e2⟩ := sound_rng g gt
      have GV := Lib.hid g; clear g
      have GT := Lib.hid gt; clear gt
      rw [e1, e2]; clear e1 e2
      go_enter Try.func33, Try.ntmps33
      go_wp2_with fail
      refine (implValidTun_any _ lv x _ ⟨rfl, hlv.mono (by (repeat (first | with_reducible exact Below.refl _ _ | with_reducible exact hbw | (with_reducible refine Below.setCell ?_ ?_ _; rotate_left; · first | exact Nat.le_refl _ | omega | (simp; done) | (simp; omega)) | (with_reducible refine Below.alloc ?_ ?_ _; rotate_left; · first | exact Nat.le_refl _ | omega | (simp; done) | (simp; omega)) | with_reducible refine below_drewN ?_ _ | with_reducible refine Below.drew ?_)))⟩ ok.1).mono ?_
      rw [GV.out]
      rintro e w1 ⟨rfl, hb⟩
      have hbw : Below w.heap.size w w1 := Below.trans (by (repeat (first | with_reducible exact Below.refl _ _ | with_reducible exact hbw | (with_reducible refine Below.setCell ?_ ?_ _; rotate_left; · first | exact Nat.le_refl _ | omega | (simp; done) | (simp; omega)) | (with_reducible refine Below.alloc ?_ ?_ _; rotate_left; · first | exact Nat.le_refl _ | omega | (simp; done) | (simp; omega)) | with_reducible refine below_drewN ?_ _ | with_reducible refine Below.drew ?_))) (hb.mono (by simp <;> omega))
      have y2 : w1.cell? ⟨w.heap.size + 1, 0, none⟩ = some (.int .i64 t) := cellB hb (by simp [go_sem])
      clear hb
      go_wp2_with fail
      refine (within_any false _ _ _ _ (noB GT.out)).mono ?_
      rintro e w2 ⟨rfl, rfl⟩
      go_wp2
      go_ret2
      exact ⟨_, rfl, OwnInts.nil _ _ _, hbw⟩

end Go.Proofs.Ytfnbjegbaobpnaa
