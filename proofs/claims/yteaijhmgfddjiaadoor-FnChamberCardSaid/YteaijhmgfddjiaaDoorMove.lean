/- A place moved. -/
import Derived.Test.YteaijhmgfddjiaaDoorClash
import Derived.Test.YteaijhmgfddjiaaDoorAmong
set_option linter.unusedSimpArgs false
set_option linter.unnecessarySimpa false
set_option linter.unusedVariables false
set_option maxRecDepth 100000
namespace Go.Proofs.YteaijhmgfddjiaaDoor
open Go.RowKit

theorem sizeP_any (a : Option Addr) (n c : Nat) (w : World) : Calls Tryd.prog 22 #[.slice a n c] w fun e w' => e = .returned (.int .i64 n) ∧ w' = w := by
  go_enter Tryd.func22, Tryd.ntmps22
  go_wp2
  go_ret
  exact ⟨rfl, rfl⟩
theorem plcs_okv {l : List PlcD} (h : PlcsOk l) : okPlcDs l := fun x hx => by
  obtain ⟨k, hk, rfl⟩ := List.getElem_of_mem hx
  obtain ⟨h0, h1, h2, h3, h4⟩ := h.ok hk
  have hb : l[k].bell.size ≤ 10 := ((NameOk.iff' _).1 h0).2.1
  refine ⟨by unfold maxLen; omega, ?_, ?_, ?_, ?_⟩ <;> (simp only [I64, Lit.wf, IntKind.min, IntKind.max, IntKind.signed, IntKind.bits]; simp; omega)
theorem moveAt_get {l : List PlcD} {k : Nat} (hk : k < l.length) (a b c : Int) {i : Nat} (hi : i < l.length) : (moveAt l k a b c)[i]'(by rw [moveAt_len]; exact hi) = if i = k then moved l[k] a b c else l[i] := by
  have e2 : l.getD k zPlc = l[k] := by rw [List.getD_eq_getElem?_getD, List.getElem?_eq_getElem hk]; rfl
  unfold moveAt
  simp only [e2, List.getElem_set]
  by_cases e : i = k
  · subst e; simp
  · rw [if_neg e, if_neg fun h => e h.symm]
theorem moveAt_take {l : List PlcD} {k : Nat} (hk : k < l.length) (a b c : Int) {i : Nat} (hi : i < l.length) : (moveAt l k a b c).take (i + 1) = (moveAt l k a b c).take i ++ [if i = k then moved l[k] a b c else l[i]] := by
  rw [List.take_succ_eq_append_getElem (by rw [moveAt_len]; exact hi), moveAt_get hk a b c hi]

set_option maxHeartbeats 2000000 in
theorem MovePlace_any (v : Value) (l : List PlcD) (k : Nat) (da db dc : Int) (w : World) (h : RdPlcDs w v l) (ok : PlcsOk l) (hkl : k < l.length) (ha : -20000 ≤ da ∧ da ≤ 20000) (hb : -20000 ≤ db ∧ db ≤ 20000) (hc : -20000 ≤ dc ∧ dc ≤ 20000) (ok2 : PlcsOk (moveAt l k da db dc)) :
    Calls Tryd.prog 11 #[v, .int .i64 k, .int .i64 da, .int .i64 db, .int .i64 dc] w fun e w' => ∃ a c, e = .returned (.tuple #[.slice a l.length c, .int .i64 0]) ∧ RdPlcDs w' (.slice a l.length c) (moveAt l k da db dc) ∧ Below w.heap.size w w' := by
  have P1 := ValidPlaces_any v l w h (plcs_okv ok)
  rw [plcsB_iff.2 ok] at P1
  obtain ⟨a0, c0, rfl, m0⟩ := h.form'
  have hl24 := ok.len
  unfold maxLen at m0
  have OK := Lib.hid ok; have OK2 := Lib.hid ok2
  have HI := Lib.hid (show true = decide (0 ≤ (k : Int) ∧ (k : Int) ≤ (l.length : Int) - 1) from yesB ⟨by omega, by omega⟩)
  have HA := Lib.hid (yesB ha); have HB := Lib.hid (yesB hb); have HC := Lib.hid (yesB hc)
  have wr0 : IntKind.i64.wrap ((l.length : Int) - 1) = (l.length : Int) - 1 := IntWalk.i64_in _ (by omega)
  clear ok ok2
  go_enter Tryd.func11, Tryd.ntmps11
  go_wp2_with fail
  refine P1.mono ?_
  rintro e w1 ⟨rfl, hb1⟩
  go_wp2_with fail
  refine (sizeP_any _ _ _ _).mono ?_
  rintro e w2 ⟨rfl, rfl⟩
  go_wp2_with fail
  refine (within_any true _ _ _ _ HI.out).mono ?_
  rintro e w3 ⟨rfl, rfl⟩
  go_wp2_with fail
  refine (isMove_any true da _ HA.out).mono ?_
  rintro e w4 ⟨rfl, rfl⟩
  go_wp2_with fail
  refine (isMove_any true db _ HB.out).mono ?_
  rintro e w5 ⟨rfl, rfl⟩
  go_wp2_with fail
  refine (isMove_any true dc _ HC.out).mono ?_
  rintro e w6 ⟨rfl, rfl⟩
  go_wp2_with fail
  go_loopw [12, 41] (fun ov iv wr => ∃ (i : Nat) (a : Option Addr) (c : Nat), ov = .slice a i c ∧ iv = .int .i64 i ∧ i ≤ l.length ∧ wr.ownsRow w.heap.size 34 5 (.slice a i c) i (((moveAt l k da db dc).take i).flatMap PlcD.cells) ∧ Below w.heap.size w wr) (fun _ iv _ => l.length - (intOf iv).toNat)
  case atStart => exact ⟨0, none, 0, rfl, by go_num, Nat.zero_le _, owns_nil _ _ _ _, hb1⟩
  case round =>
    clear hb1
    obtain ⟨i, a, c, rfl, rfl, hi, ho, hbw⟩ := hrel
    have HO := Lib.hid ho
    have hz := hbw.size
    clear ho
    by_cases hlt : i < l.length
    · obtain ⟨b1, o1, e1, mm, z0, z1, z2, z3, z4⟩ := (h.mono hbw).at hlt
      subst e1
      obtain ⟨_, ⟨p1, p2⟩, ⟨p3, p4⟩, ⟨p5, p6⟩, _⟩ := OK.out.ok hlt
      by_cases e : i = k
      · have hki : ((i : Int) == (k : Int)) = true := by rw [beq_iff_eq]; omega
        have HX := Lib.hid (show (if i = k then moved l[k] da db dc else l[i]) = ⟨l[i].bell, l[i].x + da, l[i].y + db, l[i].z + dc, l[i].reach⟩ by
          subst e; rw [if_pos rfl]; rfl)
        have w1' : IntKind.i64.wrap (l[i].x + da) = l[i].x + da := IntWalk.i64_in _ (by omega)
        have w2' : IntKind.i64.wrap (l[i].y + db) = l[i].y + db := IntWalk.i64_in _ (by omega)
        have w3' : IntKind.i64.wrap (l[i].z + dc) = l[i].z + dc := IntWalk.i64_in _ (by omega)
        clear e
        have HBA := Lib.hid (hbw.trans ((belowA wr (.cells #[.string l[i].bell, .int .i64 (l[i].x + da), .int .i64 (l[i].y + db), .int .i64 (l[i].z + dc), .int .i64 l[i].reach] 34)).mono hz))
        have HR := Lib.hid (owns_mono HO.out (belowA wr (.cells #[.string l[i].bell, .int .i64 (l[i].x + da), .int .i64 (l[i].y + db), .int .i64 (l[i].z + dc), .int .i64 l[i].reach] 34)))
        go_wp2_with (at_builtin; refine append_one_at rfl _ _ 24 rfl w.heap.size 34 (.agg #[.string ⟨#[]⟩, .int .i64 0, .int .i64 0, .int .i64 0, .int .i64 0]) 5 48 Tryd.underlying24 info_Place rfl (by decide) _ i _ rfl HR.out [.string l[i].bell, .int .i64 (l[i].x + da), .int .i64 (l[i].y + db), .int .i64 (l[i].z + dc), .int .i64 l[i].reach] rfl (by simp [Value.oneCell']) (wr.heap.size + 1) (by simp) rfl (by omega) (by decide) (by simp; omega) ?_)
        intro a7 k7 w7 ho7 hg7 hb7 _
        have HR7 := Lib.hid (show w7.ownsRow w.heap.size 34 5 (.slice a7 (i + 1) k7) (i + 1) (((moveAt l k da db dc).take (i + 1)).flatMap PlcD.cells) from by
          rw [moveAt_take hkl da db dc hlt, HX.out, List.flatMap_append]; exact ho7)
        have hb8 := (HBA.out).trans hb7
        clear ho7 hg7 hb7
        go_wp2
        go_roundw
        case rel => exact ⟨i + 1, a7, k7, rfl, by go_num, by omega, HR7.out, hb8⟩
        case measure => simp [intOf] <;> omega
      · have hki : ((i : Int) == (k : Int)) = false := by rw [beq_eq_false_iff_ne]; omega
        have HX := Lib.hid (show (if i = k then moved l[k] da db dc else l[i]) = l[i] from if_neg e)
        have HBA := Lib.hid (hbw.trans ((belowA wr (.cells #[.string l[i].bell, .int .i64 l[i].x, .int .i64 l[i].y, .int .i64 l[i].z, .int .i64 l[i].reach] 34)).mono hz))
        have HR := Lib.hid (owns_mono HO.out (belowA wr (.cells #[.string l[i].bell, .int .i64 l[i].x, .int .i64 l[i].y, .int .i64 l[i].z, .int .i64 l[i].reach] 34)))
        clear e
        go_wp2_with (at_builtin; refine append_one_at rfl _ _ 24 rfl w.heap.size 34 (.agg #[.string ⟨#[]⟩, .int .i64 0, .int .i64 0, .int .i64 0, .int .i64 0]) 5 48 Tryd.underlying24 info_Place rfl (by decide) _ i _ rfl HR.out [.string l[i].bell, .int .i64 l[i].x, .int .i64 l[i].y, .int .i64 l[i].z, .int .i64 l[i].reach] rfl (by simp [Value.oneCell']) (wr.heap.size + 1) (by simp) rfl (by omega) (by decide) (by simp; omega) ?_)
        intro a7 k7 w7 ho7 hg7 hb7 _
        have HR7 := Lib.hid (show w7.ownsRow w.heap.size 34 5 (.slice a7 (i + 1) k7) (i + 1) (((moveAt l k da db dc).take (i + 1)).flatMap PlcD.cells) from by
          rw [moveAt_take hkl da db dc hlt, HX.out, List.flatMap_append]; exact ho7)
        have hb8 := (HBA.out).trans hb7
        clear ho7 hg7 hb7
        go_wp2
        go_roundw
        case rel => exact ⟨i + 1, a7, k7, rfl, by go_num, by omega, HR7.out, hb8⟩
        case measure => simp [intOf] <;> omega
    · obtain rfl : i = l.length := by omega
      have e0 : (moveAt l k da db dc).take l.length = moveAt l k da db dc := List.take_of_length_le (by rw [moveAt_len]; exact Nat.le_refl _)
      rw [e0] at HO
      have HRD := Lib.hid (show RdPlcDs wr (.slice a l.length c) (moveAt l k da db dc) by have := Sl.of_owns HO.out; unfold RdPlcDs; rw [moveAt_len]; exact this)
      clear HO e0
      have P2 := ValidPlaces_any (.slice a l.length c) (moveAt l k da db dc) wr HRD.out (plcs_okv OK2.out)
      rw [plcsB_iff.2 OK2.out] at P2
      go_wp2_with fail
      refine P2.mono ?_
      rintro e w7 ⟨rfl, hb7⟩
      go_wp2
      go_ret2
      exact ⟨a, c, rfl, HRD.out.mono hb7, hbw.trans (hb7.mono hz)⟩

end Go.Proofs.YteaijhmgfddjiaaDoor
