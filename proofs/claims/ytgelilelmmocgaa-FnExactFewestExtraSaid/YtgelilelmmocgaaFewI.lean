/- Contract of FewestExtra of the implementation. -/
import Derived.Test.YtgelilelmmocgaaFew
set_option linter.unusedSimpArgs false
set_option linter.unnecessarySimpa false
set_option linter.unusedVariables false
set_option maxRecDepth 100000
namespace Go.Proofs.Ytgelilelmmocgaa
open Go.RowKit

set_option maxHeartbeats 2000000 in
theorem implFewestExtra_any (v : Value) (x : TunD) (v2 : Value) (ns : List Int) (w : World) (h : RdTun w v x) (ok : x.ok) (_ : x.tones.length ≤ 1048576) (hn : RdInts w v2 ns) (_ : ∀ x ∈ ns, I64 x) (_ : ns.length ≤ 1048576) :
    Calls Try.prog 37 #[v, v2] w fun e w' => ∃ v', e = .returned (.tuple #[.int .i64 (feN x ns), v', .int .i64 (feC x ns)]) ∧ OwnInts w.heap.size w'.heap.size w' v' (feV x ns) ∧ Below w.heap.size w w' := by
  obtain ⟨lv, rfl, hlv⟩ := h
  have hn : Ints w v2 ns := hn
  obtain ⟨a1, cs1, rfl, _, _, _⟩ := id hn
  by_cases ga : askC x ns 0 = 0
  · have AV := Lib.hid (ask_zero.1 ga)
    obtain ⟨zs, hzs⟩ : ∃ zs, zs = sel allT x.tones := ⟨_, rfl⟩
    have E := Lib.hid (show feV x ns = (few ns zs 49).2.2 ∧ feN x ns = (few ns zs 49).2.1 ∧ feC x ns = if (few ns zs 49).1 = true then 0 else 3 by unfold feV feN feC; rw [if_pos ga, if_pos ga, if_pos ga, hzs]; exact ⟨rfl, rfl, rfl⟩)
    have hzl : zs.length ≤ 128 := by rw [hzs, sel_eq]; simpa using tun_len AV.out.1
    have ZE := Lib.hid hzs; clear hzs
    have d0 : (askC x ns 0 != 0) = false := by simpa using ga
    have A0 := Lib.hid ga; clear ga
    go_enter Try.func37, Try.ntmps37
    go_wp2_with fail
    refine (arranged_any _ lv _ x ns 0 _ ⟨rfl, hlv.mono (by (repeat (first | with_reducible exact Below.refl _ _ | with_reducible exact hbw | (with_reducible refine Below.setCell ?_ ?_ _; rotate_left; · first | exact Nat.le_refl _ | omega | (simp; done) | (simp; omega)) | (with_reducible refine Below.alloc ?_ ?_ _; rotate_left; · first | exact Nat.le_refl _ | omega | (simp; done) | (simp; omega)) | with_reducible refine below_drewN ?_ _ | with_reducible refine Below.drew ?_)))⟩ ok.1 (Ints.mono hn (by (repeat (first | with_reducible exact Below.refl _ _ | with_reducible exact hbw | (with_reducible refine Below.setCell ?_ ?_ _; rotate_left; · first | exact Nat.le_refl _ | omega | (simp; done) | (simp; omega)) | (with_reducible refine Below.alloc ?_ ?_ _; rotate_left; · first | exact Nat.le_refl _ | omega | (simp; done) | (simp; omega)) | with_reducible refine below_drewN ?_ _ | with_reducible refine Below.drew ?_))))).mono ?_
    rintro e w1 ⟨rfl, hb⟩
    have hbw : Below w.heap.size w w1 := Below.trans (by (repeat (first | with_reducible exact Below.refl _ _ | with_reducible exact hbw | (with_reducible refine Below.setCell ?_ ?_ _; rotate_left; · first | exact Nat.le_refl _ | omega | (simp; done) | (simp; omega)) | (with_reducible refine Below.alloc ?_ ?_ _; rotate_left; · first | exact Nat.le_refl _ | omega | (simp; done) | (simp; omega)) | with_reducible refine below_drewN ?_ _ | with_reducible refine Below.drew ?_))) (hb.mono (by simp <;> omega))
    have y0 : w1.cell? ⟨w.heap.size, 0, none⟩ = some (.string x.name) := cellB hb (by simp [go_sem])
    have y1 : w1.cell? ⟨w.heap.size, 1, none⟩ = some lv := cellB hb (by simp [go_sem])
    clear hb
    have hsz1 := hbw.size
    have hl1 := World.block_lt_of_cell? _ _ y0
    simp only at hl1
    go_wp2_with fail
    refine (shifts_any _).mono ?_
    rintro e w2 ⟨vL, rfl, hoL, hbL⟩
    have hbw2 := hbw.trans (hbL.mono hsz1)
    have hL : Sl w2 vL 49 ((shL 49).map (Value.int .i64)) := Sl.of_owns hoL
    obtain ⟨b9, c9, rfl, _, _, _⟩ := id hL
    have z0 := cellB hbL y0
    have z1 := cellB hbL y1
    clear hoL hbL
    go_wp2_with fail
    go_loopw [8, 9, 10, 23, 12, 13, 14] (fun b f q i _ _ _ wr => ∃ (k : Nat) (f0 : Bool) (l : Int) (y : List Int) (a' : Option Addr) (c' : Nat), k ≤ 49 ∧ (f0, l, y) = few ns zs k ∧ i = .int .i64 (k : Int) ∧ b = .int .i64 l ∧ f = .bool f0 ∧ q = .slice a' y.length c' ∧ wr.ownsRow w2.heap.size 2 1 (.slice a' y.length c') y.length (y.map (Value.int .i64)) ∧ Below w2.heap.size w2 wr) (fun _ _ _ i _ _ _ _ => 49 - (intOf i).toNat)
    case atStart => exact ⟨0, false, 0, [], none, 0, by omega, rfl, by go_num, rfl, rfl, rfl, owns_nil _ _ _ _, Below.refl _ _⟩
    case round =>
      obtain ⟨k, f, l, q, a2, c2, hk, hs, rfl, rfl, rfl, rfl, ho, hb⟩ := hrel
      have hz := hb.size
      have u0 := cellB hb z0
      have u1 := cellB hb z1
      have HS := Lib.hid hs; clear hs
      by_cases hlt : k ≤ 48
      · have dk : decide ((k : Int) < 49) = true := by simp; omega
        by_cases gx : exB (shK k) zs = true
        · have EX := Lib.hid gx; clear gx
          cases f
          · have S := Lib.hid (few_yes (show fewBetter ns zs k (few ns zs k) = true by rw [← HS.out]; exact better_b EX.out))
            obtain ⟨p, o, rfl, c9⟩ := (hL.mono hb).cells (by simp [shL_len])
            have hp : wr.cell? ⟨p, o + k, none⟩ = some (.int .i64 (shK k)) := c9 k _ (by rw [List.getElem?_map, List.getElem?_eq_getElem (by rw [shL_len]; omega), shL_get]; rfl)
            clear c9
            have lp := World.block_lt_of_cell? _ _ hp
            simp only at lp
            go_wp2_with fail
            refine (extraNotes_any _ lv _ x ns (shK k) _ ⟨rfl, hlv.mono (hbw2.trans (hb.mono hbw2.size))⟩ (Ints.mono hn (hbw2.trans (hb.mono hbw2.size))) AV.out.1 AV.out.2.1 (shK_bd (by omega))).mono ?_
            rw [← ZE.out, EX.out]
            rintro e w3 ⟨v3, rfl, ho3, st⟩
            have hb2 := hb.trans (st.mono hz)
            have ho3' := owns_base ho3.1 hz
            obtain ⟨a3, c3, rfl⟩ := owns_slice ho3.1
            clear ho3
            go_wp2
            go_roundw
            case rel => exact ⟨k + 1, true, shK k, exV ns (shK k) zs, a3, c3, by omega, by rw [S.out], by go_num, rfl, rfl, rfl, ho3', hb2⟩
            case measure => simp [intOf] <;> omega
          · by_cases gl : (exV ns (shK k) zs).length < q.length
            · have S := Lib.hid (few_yes (show fewBetter ns zs k (few ns zs k) = true by rw [← HS.out]; exact better_c EX.out gl))
              have dl : decide (((exV ns (shK k) zs).length : Int) < (q.length : Int)) = true := by simp; omega
              have dl2 : decide ((exV ns (shK k) zs).length < q.length) = true := by simp; omega
              have GL := Lib.hid gl; clear gl
              obtain ⟨p, o, rfl, c9⟩ := (hL.mono hb).cells (by simp [shL_len])
              have hp : wr.cell? ⟨p, o + k, none⟩ = some (.int .i64 (shK k)) := c9 k _ (by rw [List.getElem?_map, List.getElem?_eq_getElem (by rw [shL_len]; omega), shL_get]; rfl)
              clear c9
              have lp := World.block_lt_of_cell? _ _ hp
              simp only at lp
              go_wp2_with fail
              refine (extraNotes_any _ lv _ x ns (shK k) _ ⟨rfl, hlv.mono (hbw2.trans (hb.mono hbw2.size))⟩ (Ints.mono hn (hbw2.trans (hb.mono hbw2.size))) AV.out.1 AV.out.2.1 (shK_bd (by omega))).mono ?_
              rw [← ZE.out, EX.out]
              rintro e w3 ⟨v3, rfl, ho3, st⟩
              have hb2 := hb.trans (st.mono hz)
              have ho3' := owns_base ho3.1 hz
              obtain ⟨a3, c3, rfl⟩ := owns_slice ho3.1
              clear ho3
              go_wp2
              go_roundw
              case rel => exact ⟨k + 1, true, shK k, exV ns (shK k) zs, a3, c3, by omega, by rw [S.out], by go_num, rfl, rfl, rfl, ho3', hb2⟩
              case measure => simp [intOf] <;> omega
            · have S := Lib.hid (few_no (show ¬ fewBetter ns zs k (few ns zs k) = true by rw [← HS.out]; exact better_d gl))
              have dl : decide (((exV ns (shK k) zs).length : Int) < (q.length : Int)) = false := by simp; omega
              have dl2 : decide ((exV ns (shK k) zs).length < q.length) = false := by simp; omega
              have GL := Lib.hid gl; clear gl
              obtain ⟨p, o, rfl, c9⟩ := (hL.mono hb).cells (by simp [shL_len])
              have hp : wr.cell? ⟨p, o + k, none⟩ = some (.int .i64 (shK k)) := c9 k _ (by rw [List.getElem?_map, List.getElem?_eq_getElem (by rw [shL_len]; omega), shL_get]; rfl)
              clear c9
              have lp := World.block_lt_of_cell? _ _ hp
              simp only at lp
              go_wp2_with fail
              refine (extraNotes_any _ lv _ x ns (shK k) _ ⟨rfl, hlv.mono (hbw2.trans (hb.mono hbw2.size))⟩ (Ints.mono hn (hbw2.trans (hb.mono hbw2.size))) AV.out.1 AV.out.2.1 (shK_bd (by omega))).mono ?_
              rw [← ZE.out, EX.out]
              rintro e w3 ⟨v3, rfl, ho3, st⟩
              have hb2 := hb.trans (st.mono hz)
              have ho3' := owns_base ho3.1 hz
              obtain ⟨a3, c3, rfl⟩ := owns_slice ho3.1
              clear ho3
              go_wp2
              go_roundw
              case rel => exact ⟨k + 1, true, l, q, a2, c2, by omega, by rw [S.out, HS.out], by go_num, rfl, rfl, rfl, owns_mono ho st, hb2⟩
              case measure => simp [intOf] <;> omega
        · have gx' : exB (shK k) zs = false := by simpa using gx
          have S := Lib.hid (few_no (better_a (s := few ns zs k) (ns := ns) gx'))
          have EX := Lib.hid gx'; clear gx gx'
          obtain ⟨p, o, rfl, c9⟩ := (hL.mono hb).cells (by simp [shL_len])
          have hp : wr.cell? ⟨p, o + k, none⟩ = some (.int .i64 (shK k)) := c9 k _ (by rw [List.getElem?_map, List.getElem?_eq_getElem (by rw [shL_len]; omega), shL_get]; rfl)
          clear c9
          have lp := World.block_lt_of_cell? _ _ hp
          simp only at lp
          go_wp2_with fail
          refine (extraNotes_any _ lv _ x ns (shK k) _ ⟨rfl, hlv.mono (hbw2.trans (hb.mono hbw2.size))⟩ (Ints.mono hn (hbw2.trans (hb.mono hbw2.size))) AV.out.1 AV.out.2.1 (shK_bd (by omega))).mono ?_
          rw [← ZE.out, EX.out]
          rintro e w3 ⟨v3, rfl, ho3, st⟩
          have hb2 := hb.trans (st.mono hz)
          have ho3' := owns_base ho3.1 hz
          obtain ⟨a3, c3, rfl⟩ := owns_slice ho3.1
          clear ho3
          go_wp2
          go_roundw
          case rel => exact ⟨k + 1, f, l, q, a2, c2, by omega, by rw [S.out, HS.out], by go_num, rfl, rfl, rfl, owns_mono ho st, hb2⟩
          case measure => simp [intOf] <;> omega
      · obtain rfl : k = 49 := by omega
        obtain ⟨e1, e2, e3⟩ := E.out
        rw [← HS.out] at e1 e2 e3
        simp only at e1 e2 e3
        cases f
        · have hq := few_none ns zs 49 (by rw [← HS.out])
          rw [← HS.out] at hq
          obtain ⟨rfl, rfl⟩ : l = 0 ∧ q = [] := by simpa using hq
          have R := Lib.hid (show feV x ns = [] ∧ feN x ns = 0 ∧ feC x ns = 3 from ⟨e1, e2, by rw [e3]; rfl⟩)
          clear e1 e2 e3 hq
          go_wp2
          go_ret3
          exact ⟨_, by rw [R.out.2.1, R.out.2.2]; rfl, by rw [R.out.1]; exact OwnInts.nil _ _ _, hbw2.trans (hb.mono hbw2.size)⟩
        · have R := Lib.hid (show feV x ns = q ∧ feN x ns = l ∧ feC x ns = 0 from ⟨e1, e2, by rw [e3]; rfl⟩)
          clear e1 e2 e3
          go_wp2
          go_ret3
          exact ⟨_, by rw [R.out.2.1, R.out.2.2]; rfl, by rw [R.out.1]; exact OwnRow.mk' (owns_base ho hbw2.size), hbw2.trans (hb.mono hbw2.size)⟩
  · have E := Lib.hid (show feV x ns = [] ∧ feN x ns = 0 ∧ feC x ns = askC x ns 0 by unfold feV feN feC; rw [if_neg ga, if_neg ga, if_neg ga]; exact ⟨rfl, rfl, rfl⟩)
    have d0 : (askC x ns 0 != 0) = true := by simpa using ga
    clear ga
    go_enter Try.func37, Try.ntmps37
    go_wp2_with fail
    refine (arranged_any _ lv _ x ns 0 _ ⟨rfl, hlv.mono (by (repeat (first | with_reducible exact Below.refl _ _ | with_reducible exact hbw | (with_reducible refine Below.setCell ?_ ?_ _; rotate_left; · first | exact Nat.le_refl _ | omega | (simp; done) | (simp; omega)) | (with_reducible refine Below.alloc ?_ ?_ _; rotate_left; · first | exact Nat.le_refl _ | omega | (simp; done) | (simp; omega)) | with_reducible refine below_drewN ?_ _ | with_reducible refine Below.drew ?_)))⟩ ok.1 (Ints.mono hn (by (repeat (first | with_reducible exact Below.refl _ _ | with_reducible exact hbw | (with_reducible refine Below.setCell ?_ ?_ _; rotate_left; · first | exact Nat.le_refl _ | omega | (simp; done) | (simp; omega)) | (with_reducible refine Below.alloc ?_ ?_ _; rotate_left; · first | exact Nat.le_refl _ | omega | (simp; done) | (simp; omega)) | with_reducible refine below_drewN ?_ _ | with_reducible refine Below.drew ?_))))).mono ?_
    rintro e w1 ⟨rfl, hb⟩
    have hbw : Below w.heap.size w w1 := Below.trans (by (repeat (first | with_reducible exact Below.refl _ _ | with_reducible exact hbw | (with_reducible refine Below.setCell ?_ ?_ _; rotate_left; · first | exact Nat.le_refl _ | omega | (simp; done) | (simp; omega)) | (with_reducible refine Below.alloc ?_ ?_ _; rotate_left; · first | exact Nat.le_refl _ | omega | (simp; done) | (simp; omega)) | with_reducible refine below_drewN ?_ _ | with_reducible refine Below.drew ?_))) (hb.mono (by simp <;> omega))
    clear hb
    go_wp2
    go_ret3
    exact ⟨_, by rw [E.out.2.1, E.out.2.2]; rfl, by rw [E.out.1]; exact OwnInts.nil _ _ _, hbw⟩

end Go.Proofs.Ytgelilelmmocgaa
