/- Contracts of FewestExtra of both packages. -/
import Derived.Test.YtgelilelmmocgaaFewL
set_option linter.unusedSimpArgs false
set_option linter.unnecessarySimpa false
set_option linter.unusedVariables false
set_option maxRecDepth 100000
namespace Go.Proofs.Ytgelilelmmocgaa
open Go.RowKit

set_option maxHeartbeats 2000000 in
theorem specFewestExtra_any (v : Value) (x : TunD) (v2 : Value) (ns : List Int) (w : World) (h : RdTun w v x) (ok : x.ok) (_ : x.tones.length ≤ 1048576) (hn : RdInts w v2 ns) (_ : ∀ x ∈ ns, I64 x) (_ : ns.length ≤ 1048576) :
    Calls Try.prog 36 #[v, v2] w fun e w' => ∃ v', e = .returned (.tuple #[.int .i64 (feN x ns), v', .int .i64 (feC x ns)]) ∧ OwnInts w.heap.size w'.heap.size w' v' (feV x ns) ∧ Below w.heap.size w w' := by
  obtain ⟨lv, rfl, hlv⟩ := h
  have hn : Ints w v2 ns := hn
  obtain ⟨a1, cs1, rfl, _, _, _⟩ := id hn
  by_cases ga : askC x ns 0 = 0
  · have AV := Lib.hid (ask_zero.1 ga)
    obtain ⟨zs, hzs⟩ : ∃ zs, zs = sel allT x.tones := ⟨_, rfl⟩
    have E := Lib.hid (show feV x ns = (few ns zs 49).2.2 ∧ feN x ns = (few ns zs 49).2.1 ∧ feC x ns = if (few ns zs 49).1 = true then 0 else 3 by unfold feV feN feC; rw [if_pos ga, if_pos ga, if_pos ga, hzs]; exact ⟨rfl, rfl, rfl⟩)
    have hzl : zs.length ≤ 128 := by rw [hzs, sel_eq]; simpa using tun_len AV.out.1
    have ZE := Lib.hid hzs; clear hzs
    have d0 : (askC x ns 0 != 0) = false := by simpa using ga
    have A0 := Lib.hid ga; clear ga
    go_enter Try.func36, Try.ntmps36
    go_wp2_with fail
    refine (l26Ask_any _ lv _ x ns 0 _ ⟨by simp [go_sem], by simp [go_sem], hlv.mono (by (repeat (first | with_reducible exact Below.refl _ _ | with_reducible exact hbw | (with_reducible refine Below.setCell ?_ ?_ _; rotate_left; · first | exact Nat.le_refl _ | omega | (simp; done) | (simp; omega)) | (with_reducible refine Below.alloc ?_ ?_ _; rotate_left; · first | exact Nat.le_refl _ | omega | (simp; done) | (simp; omega)) | with_reducible refine below_drewN ?_ _ | with_reducible refine Below.drew ?_))), ok.1⟩ (Ints.mono hn (by (repeat (first | with_reducible exact Below.refl _ _ | with_reducible exact hbw | (with_reducible refine Below.setCell ?_ ?_ _; rotate_left; · first | exact Nat.le_refl _ | omega | (simp; done) | (simp; omega)) | (with_reducible refine Below.alloc ?_ ?_ _; rotate_left; · first | exact Nat.le_refl _ | omega | (simp; done) | (simp; omega)) | with_reducible refine below_drewN ?_ _ | with_reducible refine Below.drew ?_))))).mono ?_
    rintro e w1 ⟨rfl, hb⟩
    have hbw : Below w.heap.size w w1 := Below.trans (by (repeat (first | with_reducible exact Below.refl _ _ | with_reducible exact hbw | (with_reducible refine Below.setCell ?_ ?_ _; rotate_left; · first | exact Nat.le_refl _ | omega | (simp; done) | (simp; omega)) | (with_reducible refine Below.alloc ?_ ?_ _; rotate_left; · first | exact Nat.le_refl _ | omega | (simp; done) | (simp; omega)) | with_reducible refine below_drewN ?_ _ | with_reducible refine Below.drew ?_))) (hb.mono (by simp <;> omega))
    have y0 : w1.cell? ⟨w.heap.size, 0, none⟩ = some (.string x.name) := cellB hb (by simp [go_sem])
    have y1 : w1.cell? ⟨w.heap.size, 1, none⟩ = some lv := cellB hb (by simp [go_sem])
    clear hb
    have hsz1 := hbw.size
    have hl1 := World.block_lt_of_cell? _ _ y0
    simp only at hl1
    go_wp2_with fail
    go_loopw [8, 9, 10, 11, 12, 13] (fun b f q i _ _ wr => ∃ (k : Nat) (f0 : Bool) (l : Int) (y : List Int) (a' : Option Addr) (c' : Nat), k ≤ 49 ∧ (f0, l, y) = few ns zs k ∧ i = .int .i64 (k : Int) ∧ b = .int .i64 l ∧ f = .bool f0 ∧ q = .slice a' y.length c' ∧ wr.ownsRow w.heap.size 2 1 (.slice a' y.length c') y.length (y.map (Value.int .i64)) ∧ Below w.heap.size w wr ∧ wr.cell? ⟨w.heap.size, 0, none⟩ = some (.string x.name) ∧ wr.cell? ⟨w.heap.size, 1, none⟩ = some lv) (fun _ _ _ i _ _ _ => 49 - (intOf i).toNat)
    case atStart => exact ⟨0, false, 0, [], _, _, by omega, rfl, by go_num, rfl, rfl, rfl, owns_empty _ _ 1 _ hsz1, by have hbw := hbw; (repeat (first | with_reducible exact Below.refl _ _ | with_reducible exact hbw | (with_reducible refine Below.setCell ?_ ?_ _; rotate_left; · first | exact Nat.le_refl _ | omega | (simp; done) | (simp; omega)) | (with_reducible refine Below.alloc ?_ ?_ _; rotate_left; · first | exact Nat.le_refl _ | omega | (simp; done) | (simp; omega)) | with_reducible refine below_drewN ?_ _ | with_reducible refine Below.drew ?_)), by simpa [go_sem, hl1] using y0, by simpa [go_sem, hl1] using y1⟩
    case round =>
      obtain ⟨k, f, l, q, a2, c2, hk, hs, rfl, rfl, rfl, rfl, ho, hb, u0, u1⟩ := hrel
      have hz := hb.size
      have HS := Lib.hid hs; clear hs
      by_cases hlt : k ≤ 48
      · have dk : decide ((k : Int) ≤ 48) = true := by simp; omega
        by_cases gx : exB (shK k) zs = true
        · have EX := Lib.hid gx; clear gx
          cases f
          · have S := Lib.hid (few_yes (show fewBetter ns zs k (few ns zs k) = true by rw [← HS.out]; exact better_b EX.out))
            go_wp2_with fail
            refine (l26Order_any k _ (by omega)).mono ?_
            rintro e wr ⟨rfl, rfl⟩
            go_wp2_with fail
            refine (l26Extra_any _ lv _ x ns (shK k) _ ⟨u0, u1, hlv.mono hb, ok.1⟩ (Ints.mono hn hb) AV.out.1 (shK_bd (by omega))).mono ?_
            rw [← ZE.out, EX.out]
            rintro e w2 ⟨v3, rfl, ho3, st⟩
            have hb2 := hb.trans (st.mono hz)
            have ho3' := owns_base ho3.1 hz
            obtain ⟨a3, c3, rfl⟩ := owns_slice ho3.1
            clear ho3
            go_wp2_with fail
            refine (l26Order_any k _ (by omega)).mono ?_
            rintro e w2 ⟨rfl, rfl⟩
            go_wp2
            go_roundw
            case rel => exact ⟨k + 1, true, shK k, exV ns (shK k) zs, a3, c3, by omega, by rw [S.out], by go_num, rfl, rfl, rfl, ho3', hb2, cellB st u0, cellB st u1⟩
            case measure => simp [intOf] <;> omega
          · by_cases gl : (exV ns (shK k) zs).length < q.length
            · have S := Lib.hid (few_yes (show fewBetter ns zs k (few ns zs k) = true by rw [← HS.out]; exact better_c EX.out gl))
              have dl : decide (((exV ns (shK k) zs).length : Int) < (q.length : Int)) = true := by simp; omega
              have dl2 : decide ((exV ns (shK k) zs).length < q.length) = true := by simp; omega
              have GL := Lib.hid gl; clear gl
              go_wp2_with fail
              refine (l26Order_any k _ (by omega)).mono ?_
              rintro e wr ⟨rfl, rfl⟩
              go_wp2_with fail
              refine (l26Extra_any _ lv _ x ns (shK k) _ ⟨u0, u1, hlv.mono hb, ok.1⟩ (Ints.mono hn hb) AV.out.1 (shK_bd (by omega))).mono ?_
              rw [← ZE.out, EX.out]
              rintro e w2 ⟨v3, rfl, ho3, st⟩
              have hb2 := hb.trans (st.mono hz)
              have ho3' := owns_base ho3.1 hz
              obtain ⟨a3, c3, rfl⟩ := owns_slice ho3.1
              clear ho3
              go_wp2_with fail
              refine (l26Order_any k _ (by omega)).mono ?_
              rintro e w2 ⟨rfl, rfl⟩
              go_wp2
              go_roundw
              case rel => exact ⟨k + 1, true, shK k, exV ns (shK k) zs, a3, c3, by omega, by rw [S.out], by go_num, rfl, rfl, rfl, ho3', hb2, cellB st u0, cellB st u1⟩
              case measure => simp [intOf] <;> omega
            · have S := Lib.hid (few_no (show ¬ fewBetter ns zs k (few ns zs k) = true by rw [← HS.out]; exact better_d gl))
              have dl : decide (((exV ns (shK k) zs).length : Int) < (q.length : Int)) = false := by simp; omega
              have dl2 : decide ((exV ns (shK k) zs).length < q.length) = false := by simp; omega
              have GL := Lib.hid gl; clear gl
              go_wp2_with fail
              refine (l26Order_any k _ (by omega)).mono ?_
              rintro e wr ⟨rfl, rfl⟩
              go_wp2_with fail
              refine (l26Extra_any _ lv _ x ns (shK k) _ ⟨u0, u1, hlv.mono hb, ok.1⟩ (Ints.mono hn hb) AV.out.1 (shK_bd (by omega))).mono ?_
              rw [← ZE.out, EX.out]
              rintro e w2 ⟨v3, rfl, ho3, st⟩
              have hb2 := hb.trans (st.mono hz)
              have ho3' := owns_base ho3.1 hz
              obtain ⟨a3, c3, rfl⟩ := owns_slice ho3.1
              clear ho3
              go_wp2
              go_roundw
              case rel => exact ⟨k + 1, true, l, q, a2, c2, by omega, by rw [S.out, HS.out], by go_num, rfl, rfl, rfl, owns_mono ho st, hb2, cellB st u0, cellB st u1⟩
              case measure => simp [intOf] <;> omega
        · have gx' : exB (shK k) zs = false := by simpa using gx
          have S := Lib.hid (few_no (better_a (s := few ns zs k) (ns := ns) gx'))
          have EX := Lib.hid gx'; clear gx gx'
          go_wp2_with fail
          refine (l26Order_any k _ (by omega)).mono ?_
          rintro e wr ⟨rfl, rfl⟩
          go_wp2_with fail
          refine (l26Extra_any _ lv _ x ns (shK k) _ ⟨u0, u1, hlv.mono hb, ok.1⟩ (Ints.mono hn hb) AV.out.1 (shK_bd (by omega))).mono ?_
          rw [← ZE.out, EX.out]
          rintro e w2 ⟨v3, rfl, ho3, st⟩
          have hb2 := hb.trans (st.mono hz)
          have ho3' := owns_base ho3.1 hz
          obtain ⟨a3, c3, rfl⟩ := owns_slice ho3.1
          clear ho3
          go_wp2
          go_roundw
          case rel => exact ⟨k + 1, f, l, q, a2, c2, by omega, by rw [S.out, HS.out], by go_num, rfl, rfl, rfl, owns_mono ho st, hb2, cellB st u0, cellB st u1⟩
          case measure => simp [intOf] <;> omega
      · obtain rfl : k = 49 := by omega
        obtain ⟨e1, e2, e3⟩ := E.out
        rw [← HS.out] at e1 e2 e3
        simp only at e1 e2 e3
        cases f
        · have hq := few_none ns zs 49 (by rw [← HS.out])
          rw [← HS.out] at hq
          obtain ⟨rfl, rfl⟩ : l = 0 ∧ q = [] := by simpa using hq
          have R := Lib.hid (show feV x ns = [] ∧ feN x ns = 0 ∧ feC x ns = 3 from ⟨e1, e2, by rw [e3]; rfl⟩)
          clear e1 e2 e3 hq
          go_wp2
          go_ret3
          exact ⟨_, by rw [R.out.2.1, R.out.2.2]; rfl, by rw [R.out.1]; exact OwnInts.nil _ _ _, hb⟩
        · have R := Lib.hid (show feV x ns = q ∧ feN x ns = l ∧ feC x ns = 0 from ⟨e1, e2, by rw [e3]; rfl⟩)
          clear e1 e2 e3
          go_wp2
          go_ret3
          exact ⟨_, by rw [R.out.2.1, R.out.2.2]; rfl, by rw [R.out.1]; exact OwnRow.mk' ho, hb⟩
  · have E := Lib.hid (show feV x ns = [] ∧ feN x ns = 0 ∧ feC x ns = askC x ns 0 by unfold feV feN feC; rw [if_neg ga, if_neg ga, if_neg ga]; exact ⟨rfl, rfl, rfl⟩)
    have d0 : (askC x ns 0 != 0) = true := by simpa using ga
    clear ga
    go_enter Try.func36, Try.ntmps36
    go_wp2_with fail
    refine (l26Ask_any _ lv _ x ns 0 _ ⟨by simp [go_sem], by simp [go_sem], hlv.mono (by (repeat (first | with_reducible exact Below.refl _ _ | with_reducible exact hbw | (with_reducible refine Below.setCell ?_ ?_ _; rotate_left; · first | exact Nat.le_refl _ | omega | (simp; done) | (simp; omega)) | (with_reducible refine Below.alloc ?_ ?_ _; rotate_left; · first | exact Nat.le_refl _ | omega | (simp; done) | (simp; omega)) | with_reducible refine below_drewN ?_ _ | with_reducible refine Below.drew ?_))), ok.1⟩ (Ints.mono hn (by (repeat (first | with_reducible exact Below.refl _ _ | with_reducible exact hbw | (with_reducible refine Below.setCell ?_ ?_ _; rotate_left; · first | exact Nat.le_refl _ | omega | (simp; done) | (simp; omega)) | (with_reducible refine Below.alloc ?_ ?_ _; rotate_left; · first | exact Nat.le_refl _ | omega | (simp; done) | (simp; omega)) | with_reducible refine below_drewN ?_ _ | with_reducible refine Below.drew ?_))))).mono ?_
    rintro e w1 ⟨rfl, hb⟩
    have hbw : Below w.heap.size w w1 := Below.trans (by (repeat (first | with_reducible exact Below.refl _ _ | with_reducible exact hbw | (with_reducible refine Below.setCell ?_ ?_ _; rotate_left; · first | exact Nat.le_refl _ | omega | (simp; done) | (simp; omega)) | (with_reducible refine Below.alloc ?_ ?_ _; rotate_left; · first | exact Nat.le_refl _ | omega | (simp; done) | (simp; omega)) | with_reducible refine below_drewN ?_ _ | with_reducible refine Below.drew ?_))) (hb.mono (by simp <;> omega))
    clear hb
    go_wp2
    go_ret3
    exact ⟨_, by rw [E.out.2.1, E.out.2.2]; rfl, by rw [E.out.1]; exact OwnInts.nil _ _ _, hbw⟩

end Go.Proofs.Ytgelilelmmocgaa
