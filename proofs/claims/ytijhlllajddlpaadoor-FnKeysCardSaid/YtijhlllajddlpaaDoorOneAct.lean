/- Contracts of l24One and ValidAction of the reference. -/
import Derived.Test.YtijhlllajddlpaaDoorValidAct
set_option linter.unusedSimpArgs false
set_option linter.unnecessarySimpa false
set_option linter.unusedVariables false
namespace Go.Proofs.YtijhlllajddlpaaDoor
open Go.RowKit

/-- An action lies in block b from cell off on, its levers at lv. -/
structure ActIn (w : World) (b off : Nat) (lv : Value) (x : ActD) : Prop where
  c0 : w.cell? ⟨b, off, none⟩ = some (.int .i64 x.note)
  c1 : w.cell? ⟨b, off + 1, none⟩ = some lv
  c2 : w.cell? ⟨b, off + 2, none⟩ = some (.int .i64 x.slack)
  c3 : w.cell? ⟨b, off + 3, none⟩ = some (.int .i64 x.weight)
  levs : Levs w lv x.levs
theorem cellB' {w w' : World} {p : Addr} {v : Value} (hb : Below w.heap.size w w') (h : w.cell? p = some v) : w'.cell? p = some v := cellB hb h
theorem ActIn.mono {w w' : World} {b off : Nat} {lv : Value} {x : ActD} (h : ActIn w b off lv x) (hb : Below w.heap.size w w') : ActIn w' b off lv x :=
  ⟨cellB hb h.c0, cellB hb h.c1, cellB hb h.c2, cellB hb h.c3, h.levs.mono hb⟩

set_option maxHeartbeats 1000000 in
theorem l24One_any (b off : Nat) (lv : Value) (x : ActD) (w : World) (h : ActIn w b off lv x) :
    Calls Tryd.prog 24 #[.pointer (some ⟨b, off, none⟩)] w fun e w' => e = .returned (.bool (validActB x)) ∧ w' = w := by
  obtain ⟨c0, c1, c2, c3, hlv⟩ := h
  obtain ⟨a, ca, rfl, hca, hcm, _⟩ := id hlv
  have hm : x.levs.length ≤ maxLen := by omega
  clear hca hcm
  unfold maxLen at hm
  by_cases e1 : 0 ≤ x.note ∧ x.note ≤ 127
  · have E1 := Lib.hid e1; clear e1
    by_cases e2 : x.levs.length ≤ 6
    · have d2 : decide ((6 : Int) < (x.levs.length : Int)) = false := by simp; omega
      have E2 := Lib.hid e2
      by_cases e4 : slackOk x.slack
      · have E4 := Lib.hid e4; clear e4
        by_cases e5 : 0 ≤ x.weight ∧ x.weight ≤ 1000000
        · have E5 := Lib.hid e5; clear e5
          go_enter Tryd.func24, Tryd.ntmps24
          go_wp2_with fail
          refine (l00In_any true _ _ _ _ (yesB E1.out)).mono ?_
          rintro e w1 ⟨rfl, rfl⟩
          go_wp2_with fail
          refine (l00In_any true _ _ _ _ (yesB E4.out)).mono ?_
          rintro e w1 ⟨rfl, rfl⟩
          go_wp2_with fail
          refine (l00In_any true _ _ _ _ (yesB E5.out)).mono ?_
          rintro e w1 ⟨rfl, rfl⟩
          go_wp2_with fail
          go_loop [3] (fun i => ∃ k : Nat, k ≤ x.levs.length ∧ i = .int .i64 k ∧ (∀ i (hi : i < x.levs.length), i < k → ¬ badLev x.levs[i])) (fun i => x.levs.length - (intOf i).toNat)
          case atStart => exact ⟨0, Nat.zero_le _, rfl, by intro i _ h; omega⟩
          case round =>
            obtain ⟨k, hk, rfl, ht'⟩ := hrel
            have ht := Lib.hid ht'; clear ht'
            by_cases hlt : k < x.levs.length
            · obtain ⟨b1, o1, rfl, hB1, u0, u1⟩ := hlv.at hlt
              by_cases g0 : arm x.levs[k].inn
              · have G0 := Lib.hid g0; clear g0
                by_cases g1 : arm x.levs[k].out
                · have G1 := Lib.hid g1; clear g1
                  go_wp2_with fail
                  refine (l00In_any true _ _ _ _ (yesB G0.out)).mono ?_
                  rintro e w1 ⟨rfl, rfl⟩
                  go_wp2_with fail
                  refine (l00In_any true _ _ _ _ (yesB G1.out)).mono ?_
                  rintro e w1 ⟨rfl, rfl⟩
                  go_wp2
                  exact ⟨⟨k + 1, by omega, by go_num, not_step ht.out (fun hb => hb ⟨G0.out, G1.out⟩)⟩, by simp [intOf]; omega⟩
                · have H := Lib.hid (show ¬ ActOk x from fun h => g1 (h.arms _ (List.getElem_mem hlt)).2)
                  have G1 := Lib.hid g1; clear g1
                  go_wp2_with fail
                  refine (l00In_any true _ _ _ _ (yesB G0.out)).mono ?_
                  rintro e w1 ⟨rfl, rfl⟩
                  go_wp2_with fail
                  refine (l00In_any false _ _ _ _ (noB G1.out)).mono ?_
                  rintro e w1 ⟨rfl, rfl⟩
                  go_wp2
                  go_ret
                  exact ⟨ret_bool (finAct (by simpa using H.out)), rfl⟩
              · have H := Lib.hid (show ¬ ActOk x from fun h => g0 (h.arms _ (List.getElem_mem hlt)).1)
                have G0 := Lib.hid g0; clear g0
                go_wp2_with fail
                refine (l00In_any false _ _ _ _ (noB G0.out)).mono ?_
                rintro e w1 ⟨rfl, rfl⟩
                go_wp2
                go_ret
                exact ⟨ret_bool (finAct (by simpa using H.out)), rfl⟩
            · have H := Lib.hid (show armsOk x.levs from fun l hl => by
                obtain ⟨i, hi, rfl⟩ := List.getElem_of_mem hl
                have := ht.out i hi (by omega)
                unfold badLev at this
                exact Classical.not_not.1 this)
              go_wp2
              go_ret
              exact ⟨ret_bool (finAct (by simpa using (⟨E1.out, E2.out, H.out, E4.out, E5.out⟩ : ActOk x))), rfl⟩
        · have E5 := Lib.hid e5; clear e5
          go_enter Tryd.func24, Tryd.ntmps24
          go_wp2_with fail
          refine (l00In_any true _ _ _ _ (yesB E1.out)).mono ?_
          rintro e w1 ⟨rfl, rfl⟩
          go_wp2_with fail
          refine (l00In_any true _ _ _ _ (yesB E4.out)).mono ?_
          rintro e w1 ⟨rfl, rfl⟩
          go_wp2_with fail
          refine (l00In_any false _ _ _ _ (noB E5.out)).mono ?_
          rintro e w1 ⟨rfl, rfl⟩
          go_wp2
          go_ret
          exact ⟨ret_bool (finAct (by simpa using fun h : ActOk x => E5.out h.weight)), rfl⟩
      · have E4 := Lib.hid e4; clear e4
        go_enter Tryd.func24, Tryd.ntmps24
        go_wp2_with fail
        refine (l00In_any true _ _ _ _ (yesB E1.out)).mono ?_
        rintro e w1 ⟨rfl, rfl⟩
        go_wp2_with fail
        refine (l00In_any false _ _ _ _ (noB E4.out)).mono ?_
        rintro e w1 ⟨rfl, rfl⟩
        go_wp2
        go_ret
        exact ⟨ret_bool (finAct (by simpa using fun h : ActOk x => E4.out h.slack)), rfl⟩
    · have d2 : decide ((6 : Int) < (x.levs.length : Int)) = true := by simp; omega
      have E2 := Lib.hid e2; clear e2
      go_enter Tryd.func24, Tryd.ntmps24
      go_wp2_with fail
      refine (l00In_any true _ _ _ _ (yesB E1.out)).mono ?_
      rintro e w1 ⟨rfl, rfl⟩
      go_wp2
      go_ret
      exact ⟨ret_bool (finAct (by simpa using fun h : ActOk x => E2.out h.len)), rfl⟩
  · have E1 := Lib.hid e1; clear e1
    go_enter Tryd.func24, Tryd.ntmps24
    go_wp2_with fail
    refine (l00In_any false _ _ _ _ (noB E1.out)).mono ?_
    rintro e w1 ⟨rfl, rfl⟩
    go_wp2
    go_ret
    exact ⟨ret_bool (finAct (by simpa using fun h : ActOk x => E1.out h.note)), rfl⟩

theorem specValidAction_any (v : Value) (x : ActD) (w : World) (h : RdAct w v x) (_ : x.ok) (_ : x.levs.length ≤ 1048576) :
    Calls Tryd.prog 18 #[v] w fun e w' => e = .returned (.bool (validActB x)) ∧ Below w.heap.size w w' := by
  obtain ⟨lv, rfl, hlv⟩ := h
  go_enter Tryd.func18, Tryd.ntmps18
  go_wp2_with fail
  refine (l24One_any _ 0 lv x _ ⟨by simp [go_sem], by simp [go_sem], by simp [go_sem], by simp [go_sem], hlv.mono (by (repeat (first | with_reducible exact Below.refl _ _ | with_reducible exact hbw | (with_reducible refine Below.setCell ?_ ?_ _; rotate_left; · first | exact Nat.le_refl _ | omega | (simp; done) | (simp; omega)) | (with_reducible refine Below.alloc ?_ ?_ _; rotate_left; · first | exact Nat.le_refl _ | omega | (simp; done) | (simp; omega)) | with_reducible refine below_drewN ?_ _ | with_reducible refine Below.drew ?_)))⟩).mono ?_
  rintro e w1 ⟨rfl, rfl⟩
  go_wp2
  go_ret
  refine ⟨rfl, ?_⟩
  (repeat (first | with_reducible exact Below.refl _ _ | with_reducible exact hbw | (with_reducible refine Below.setCell ?_ ?_ _; rotate_left; · first | exact Nat.le_refl _ | omega | (simp; done) | (simp; omega)) | (with_reducible refine Below.alloc ?_ ?_ _; rotate_left; · first | exact Nat.le_refl _ | omega | (simp; done) | (simp; omega)) | with_reducible refine below_drewN ?_ _ | with_reducible refine Below.drew ?_))
theorem implValidAction_any (v : Value) (x : ActD) (w : World) (h : RdAct w v x) (_ : x.ok) (_ : x.levs.length ≤ 1048576) :
    Calls Tryd.prog 27 #[v] w fun e w' => e = .returned (.bool (validActB x)) ∧ Below w.heap.size w w' := by
  obtain ⟨lv, h⟩ := h
  exact implValidAct_any v lv x w h

/-- The size of an action, as the laws count it. -/
def szAct (x : ActD) : Nat := x.levs.length
theorem szActY (v : Value) (x : ActD) (left : Int) (w : World) (h : RdAct w v x) (_ : x.ok) (h0 : 0 ≤ left) (hl : left ≤ 1048576) (hs : szAct x ≤ left) :
    Calls Tryd.prog 6 #[v, .int .i64 left] w fun e w' => e = .returned (.int .i64 (left - szAct x)) ∧ Below w.heap.size w w' := by
  obtain ⟨lv, h⟩ := h
  refine (szAct_any v lv x left w h h0 hl).mono fun e w' ⟨he, hb⟩ => ⟨by rw [he, if_neg (by unfold szAct at hs; omega)]; rfl, hb⟩
theorem szActN (v : Value) (x : ActD) (left : Int) (w : World) (h : RdAct w v x) (_ : x.ok) (h0 : 0 ≤ left) (hl : left ≤ 1048576) (hs : left < szAct x) :
    Calls Tryd.prog 6 #[v, .int .i64 left] w fun e w' => e = .returned (.int .i64 (-1)) ∧ Below w.heap.size w w' := by
  obtain ⟨lv, h⟩ := h
  refine (szAct_any v lv x left w h h0 hl).mono fun e w' ⟨he, hb⟩ => ⟨by rw [he, if_pos (by unfold szAct at hs; omega)], hb⟩

end Go.Proofs.YtijhlllajddlpaaDoor
