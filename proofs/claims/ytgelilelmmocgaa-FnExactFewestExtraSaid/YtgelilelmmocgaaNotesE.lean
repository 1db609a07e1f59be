/- Contract of notesOf with the function that extraNotes hands it. -/
import Derived.Test.YtgelilelmmocgaaPut
import Derived.Test.YtgelilelmmocgaaKInts
import Derived.Test.YtgelilelmmocgaaKTun
set_option linter.unusedSimpArgs false
set_option linter.unnecessarySimpa false
set_option linter.unusedVariables false
set_option maxRecDepth 100000
namespace Go.Proofs.Ytgelilelmmocgaa
open Go.RowKit

/-- The notes of the tones with a property. -/
def sel (p : Ton → Bool) (ts : List Ton) : List Int := (ts.filter p).map Ton.note
theorem sel_zero (p : Ton → Bool) (ts : List Ton) : sel p (ts.take 0) = [] := rfl
theorem sel_yes {p : Ton → Bool} {ts : List Ton} {k : Nat} (h : k < ts.length) (hp : p ts[k] = true) : sel p (ts.take (k + 1)) = sel p (ts.take k) ++ [ts[k].note] := by
  unfold sel; rw [List.take_succ_eq_append_getElem h, List.filter_append, List.map_append]; simp [hp]
theorem sel_no {p : Ton → Bool} {ts : List Ton} {k : Nat} (h : k < ts.length) (hp : p ts[k] = false) : sel p (ts.take (k + 1)) = sel p (ts.take k) := by
  unfold sel; rw [List.take_succ_eq_append_getElem h, List.filter_append, List.map_append]; simp [hp]
theorem sel_len (p : Ton → Bool) (ts : List Ton) (k : Nat) : (sel p (ts.take k)).length ≤ k := by
  unfold sel; rw [List.length_map]; exact Nat.le_trans (List.length_filter_le _ _) (List.length_take_le _ _)
theorem sel_all (p : Ton → Bool) (ts : List Ton) {k : Nat} (h : ts.length ≤ k) : sel p (ts.take k) = sel p ts := by rw [List.take_of_length_le h]
theorem notesOfL_snoc (ns : List Int) (n : Int) : notesOfL (ns ++ [n]) = putI (notesOfL ns) n := by unfold notesOfL; rw [List.foldl_append]; rfl

def allT : Ton → Bool := fun _ => true
theorem allT_any (x : Ton) (w : World) :
    Calls Try.prog 111 #[.agg #[.int .i64 x.note, .int .i64 x.start, .int .i64 x.len]] w fun e w' => e = .returned (.bool true) ∧ Below w.heap.size w w' := by
  go_enter Try.func111, Try.ntmps111
  go_wp2
  go_ret
  refine ⟨rfl, ?_⟩
  (repeat (first | with_reducible exact Below.refl _ _ | with_reducible exact hbw | (with_reducible refine Below.setCell ?_ ?_ _; rotate_left; · first | exact Nat.le_refl _ | omega | (simp; done) | (simp; omega)) | (with_reducible refine Below.alloc ?_ ?_ _; rotate_left; · first | exact Nat.le_refl _ | omega | (simp; done) | (simp; omega)) | with_reducible refine below_drewN ?_ _ | with_reducible refine Below.drew ?_))
set_option maxHeartbeats 2000000 in
theorem notesAll_any (v lv : Value) (x : TunD) (w : World) (h : Tun w v lv x) (hs : x.tones.length ≤ 1048576) :
    Calls Try.prog 110 #[v, .func (.func 111) #[] #[]] w fun e w' => ∃ v', e = .returned v' ∧ OwnInts w.heap.size w'.heap.size w' v' (notesOfL (sel allT x.tones)) ∧ Below w.heap.size w w' := by
  obtain ⟨rfl, hlv⟩ := h
  obtain ⟨a, ca, rfl, hca, hcm, _⟩ := id hlv
  have hm : x.tones.length ≤ maxLen := by omega
  clear hca hcm
  unfold maxLen at hm
  go_enter Try.func110, Try.ntmps110
  go_wp2_with fail
  go_loopw [5, 11, 7, 17] (fun o i _ _ wr => ∃ (k : Nat) (a' : Option Addr) (c' : Nat), k ≤ x.tones.length ∧ i = .int .i64 k ∧ o = .slice a' (sel allT (x.tones.take k)).length c' ∧ wr.ownsRow w.heap.size 2 1 (.slice a' (sel allT (x.tones.take k)).length c') (sel allT (x.tones.take k)).length ((sel allT (x.tones.take k)).map (Value.int .i64)) ∧ Below w.heap.size w wr) (fun _ i _ _ _ => x.tones.length - (intOf i).toNat)
  case atStart => exact ⟨0, none, 0, Nat.zero_le _, rfl, rfl, owns_nil _ _ _ _, by (repeat (first | with_reducible exact Below.refl _ _ | with_reducible exact hbw | (with_reducible refine Below.setCell ?_ ?_ _; rotate_left; · first | exact Nat.le_refl _ | omega | (simp; done) | (simp; omega)) | (with_reducible refine Below.alloc ?_ ?_ _; rotate_left; · first | exact Nat.le_refl _ | omega | (simp; done) | (simp; omega)) | with_reducible refine below_drewN ?_ _ | with_reducible refine Below.drew ?_))⟩
  case round =>
    obtain ⟨k, a1, c1, hk, rfl, rfl, ho, hb⟩ := hrel
    by_cases hlt : k < x.tones.length
    · obtain ⟨b1, o1, rfl, hB1, u0, u1, u2⟩ := (hlv.mono hb).at hlt
      have l1 : b1 < wr.heap.size + 1 := by omega
      have S := Lib.hid (sel_yes (p := allT) hlt rfl)
      have hsl := sel_len allT x.tones k
      have hsz := hb.size
      go_wp2_with fail
      refine (allT_any x.tones[k] _).mono ?_
      rintro e w1 ⟨rfl, hb1⟩
      have y0 : w1.cell? ⟨wr.heap.size, 0, none⟩ = some (.int .i64 x.tones[k].note) := cellB hb1 (by simp [go_sem])
      have hz1 := World.block_lt_of_cell? _ _ y0
      simp only at hz1
      have hz2 : wr.heap.size < w1.heap.size + 1 := by omega
      have st : Below wr.heap.size wr w1 := Below.trans (by (repeat (first | with_reducible exact Below.refl _ _ | with_reducible exact hbw | (with_reducible refine Below.setCell ?_ ?_ _; rotate_left; · first | exact Nat.le_refl _ | omega | (simp; done) | (simp; omega)) | (with_reducible refine Below.alloc ?_ ?_ _; rotate_left; · first | exact Nat.le_refl _ | omega | (simp; done) | (simp; omega)) | with_reducible refine below_drewN ?_ _ | with_reducible refine Below.drew ?_))) (hb1.mono (by simp))
      have ho2 := owns_mono ho st
      have hb2 := hb.trans (st.mono hsz)
      have hsz2 := hb2.size
      clear hb1
      go_wp2_with (at_builtin; refine append_one rfl _ _ 22 rfl w.heap.size 2 (.int .i64 0) 1 8 Try.underlying22 info_int64 rfl (by decide) _ (sel allT (x.tones.take k)).length _ rfl ho2 [.int .i64 x.tones[k].note] rfl (by simp [Value.oneCell']) rfl (by omega) (by decide) hsz2 ?_)
      intro a' cap' w3 ho3 _ hb3
      go_wp2
      go_roundw
      case rel => exact ⟨k + 1, a', cap', by omega, by go_num, by rw [S.out]; simp, by rw [S.out]; simpa using ho3, hb2.trans hb3⟩
      case measure => simp [intOf] <;> omega
    · have E := Lib.hid (sel_all allT x.tones (show x.tones.length ≤ k by omega))
      rw [E.out] at ho
      have hsl := sel_len allT x.tones x.tones.length
      rw [sel_all _ _ (Nat.le_refl _)] at hsl
      obtain ⟨ns, hns⟩ : ∃ ns, ns = sel allT x.tones := ⟨_, rfl⟩
      rw [E.out]
      rw [← hns] at ho hsl ⊢
      clear E
      have HN := Lib.hid hns; clear hns
      have hsz := hb.size
      go_wp2_with fail
      refine (sortInts_any _ w.heap.size ns _ ho (by omega)).mono ?_
      rintro e w2 ⟨rfl, ho2, hg2⟩
      have hb2 : Below w.heap.size w w2 := hb.grown hg2 hsz (fun q hq => (ho.lt q hq).1)
      have hsz2 := hb2.size
      clear ho hg2
      go_wp2_with fail
      refine (compactInts_any _ w.heap.size ns.length (sortI ns) _ (sortI_len ns).symm ho2 (by rw [sortI_len]; omega)).mono ?_
      rintro e w3 ⟨v3, rfl, ho3, hg3, _⟩
      have hb3 : Below w.heap.size w w3 := hb2.grown hg3 hsz2 (fun q hq => (ho2.lt q hq).1)
      rw [notesOfL_eq, HN.out] at ho3
      go_wp2
      go_ret
      exact ⟨_, rfl, OwnRow.mk' ho3, hb3⟩

end Go.Proofs.Ytgelilelmmocgaa
