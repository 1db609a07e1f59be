/- Contract of spec.TransposeTune. -/
import Derived.Test.YtfnbjegbaobpnaaOwnTun
import Derived.Test.YtfnbjegbaobpnaaTransI
set_option linter.unusedSimpArgs false
set_option linter.unnecessarySimpa false
set_option linter.unusedVariables false
set_option maxRecDepth 100000
namespace Go.Proofs.Ytfnbjegbaobpnaa
open Go.RowKit

theorem tr_row (xs : List Ton) (b : Int) (k : Nat) (hk : k < xs.length) :
    ((xs.map (trF b)).take k ++ xs.drop k).flatMap Ton.cells = ((xs.map (trF b)).take k).flatMap Ton.cells ++ .int .i64 xs[k].note :: (.int .i64 xs[k].start :: .int .i64 xs[k].len :: (xs.drop (k + 1)).flatMap Ton.cells) ∧
    ((xs.map (trF b)).take k).flatMap Ton.cells ++ .int .i64 (xs[k].note + b) :: (.int .i64 xs[k].start :: .int .i64 xs[k].len :: (xs.drop (k + 1)).flatMap Ton.cells) = ((xs.map (trF b)).take (k + 1) ++ xs.drop (k + 1)).flatMap Ton.cells := by
  constructor
  · rw [List.flatMap_append, List.drop_eq_getElem_cons hk, List.flatMap_cons]; rfl
  · rw [List.flatMap_append, map_snoc xs (trF b) k hk]; simp [trF]
theorem tr_srt {x : TunD} (b : Int) (h : validTunB x = true) : Srt (x.tones.map (trF b)) := by
  have h1 : TunOk x := by simpa [validTunB] using h
  have h2 := tones_stc h1.tones
  unfold Srt
  rw [List.pairwise_map]
  exact h2.imp fun h => by unfold leT before trF at *; simp only; omega
theorem to_len (name : ByteArray) (d : List Ton) : (toV name d).tones.length ≤ 1048576 := by
  unfold toV; split
  · rename_i h; exact Nat.le_trans (tun_len h) (by decide)
  · simp
theorem tr_len (x : TunD) (b : Int) : (trV x b).tones.length ≤ 1048576 := by
  unfold trV; split
  · split
    · exact to_len _ _
    · simp
  · simp

set_option maxHeartbeats 2000000 in
theorem specTransposeTune_any (v : Value) (x : TunD) (b : Int) (w : World) (h : RdTun w v x) (ok : x.ok) (hs : x.tones.length ≤ 1048576) (_ : I64 b) :
    Calls Try.prog 34 #[v, .int .i64 b] w fun e w' => ∃ v', e = .returned (.tuple #[v', .int .i64 (trC x b)]) ∧ OwnTun w.heap.size w'.heap.size w' v' (trV x b) ∧ Below w.heap.size w w' := by
  obtain ⟨lv, rfl, hlv⟩ := h
  obtain ⟨a, ca, rfl, hca, hcm, _⟩ := id hlv
  have hn := ok.1
  by_cases g : validTunB x = true
  · by_cases g2 : trIn b
    · obtain ⟨e1, e2⟩ := tr_yes g g2
      have E1 := Lib.hid e1; have E2 := Lib.hid e2; have G := Lib.hid g; have G2 := Lib.hid g2; clear e1 e2 g g2
      go_enter Try.func34, Try.ntmps34
      go_wp2_with fail
      refine (l25Ok_any _ (.slice a x.tones.length ca) x _ ⟨by simp [go_sem], by simp [go_sem], hlv.mono (by (repeat (first | with_reducible exact Below.refl _ _ | with_reducible exact hbw | (with_reducible refine Below.setCell ?_ ?_ _; rotate_left; · first | exact Nat.le_refl _ | omega | (simp; done) | (simp; omega)) | (with_reducible refine Below.alloc ?_ ?_ _; rotate_left; · first | exact Nat.le_refl _ | omega | (simp; done) | (simp; omega)) | with_reducible refine below_drewN ?_ _ | with_reducible refine Below.drew ?_))), hn⟩).mono ?_
      rintro e w1 ⟨rfl, hb⟩
      have HB := Lib.hid (show Below w.heap.size w w1 from Below.trans (by (repeat (first | with_reducible exact Below.refl _ _ | with_reducible exact hbw | (with_reducible refine Below.setCell ?_ ?_ _; rotate_left; · first | exact Nat.le_refl _ | omega | (simp; done) | (simp; omega)) | (with_reducible refine Below.alloc ?_ ?_ _; rotate_left; · first | exact Nat.le_refl _ | omega | (simp; done) | (simp; omega)) | with_reducible refine below_drewN ?_ _ | with_reducible refine Below.drew ?_))) (hb.mono (by simp <;> omega)))
      have hz : w.heap.size + 2 ≤ w1.heap.size := by have := hb.size; simp at this; omega
      have z0 : w1.cell? ⟨w.heap.size, 0, none⟩ = some (.string x.name) := cellB hb (by simp [go_sem])
      have z1 : w1.cell? ⟨w.heap.size, 1, none⟩ = some (.slice a x.tones.length ca) := cellB hb (by simp [go_sem])
      have r0 : w1.cell? ⟨w.heap.size + 1, 0, none⟩ = some (.string ⟨#[]⟩) := cellB hb (by simp [go_sem])
      have r1 : w1.cell? ⟨w.heap.size + 1, 1, none⟩ = some (.slice none 0 0) := cellB hb (by simp [go_sem])
      have f0 : w1.frozen? ⟨w.heap.size + 1, 0, none⟩ = false := frozenL hb (by simp) (by simp [go_sem])
      have f1 : w1.frozen? ⟨w.heap.size + 1, 1, none⟩ = false := frozenL hb (by simp) (by simp [go_sem])
      have hz0 : w.heap.size < w1.heap.size := by omega
      have hz2 : w.heap.size + 1 < w1.heap.size := by omega
      clear hb
      rw [G.out]
      go_wp2_with fail
      refine (l00In_any true _ _ _ _ (yesB G2.out)).mono ?_
      rintro e w2 ⟨rfl, rfl⟩
      go_wp2_with fail
      refine (l25Own_any _ _ x _ ⟨z0, z1, hlv.mono HB.out, hn⟩ hs).mono ?_
      rintro e w3 ⟨v3, rfl, ho3, hb3⟩
      obtain ⟨c1, cap1, rfl⟩ := ho3.form
      obtain ⟨lv3, e3, hO3⟩ := ho3
      simp only [Value.agg.injEq, Array.mk.injEq, List.cons.injEq, and_true, true_and] at e3
      subst e3
      have hz3 := hb3.size
      have r0 := cellB hb3 r0
      have r1 := cellB hb3 r1
      have f0 := frozenL hb3 (by simp; omega) f0
      have f1 := frozenL hb3 (by simp; omega) f1
      have hb4 := HB.out.trans (hb3.mono (by omega))
      have HO3 := Lib.hid hO3; have HB4 := Lib.hid hb4
      have hw2 := hz
      clear hb3 z0 z1 hO3 hb4
      go_wp2_with fail
      go_loopw [7] (fun i wr => ∃ k : Nat, k ≤ x.tones.length ∧ i = .int .i64 (k : Int) ∧ wr.ownsRow w2.heap.size 55 3 (.slice c1 x.tones.length cap1) x.tones.length (((x.tones.map (trF b)).take k ++ x.tones.drop k).flatMap Ton.cells) ∧ Below w.heap.size w wr ∧ w3.heap.size < wr.heap.size ∧ wr.cell? ⟨w3.heap.size, 0, none⟩ = some (.string x.name) ∧ wr.cell? ⟨w3.heap.size, 1, none⟩ = some (.slice c1 x.tones.length cap1) ∧ wr.cell? ⟨w.heap.size + 1, 0, none⟩ = some (.string ⟨#[]⟩) ∧ wr.cell? ⟨w.heap.size + 1, 1, none⟩ = some (.slice none 0 0) ∧ wr.frozen? ⟨w.heap.size + 1, 0, none⟩ = false ∧ wr.frozen? ⟨w.heap.size + 1, 1, none⟩ = false) (fun i _ => x.tones.length - (intOf i).toNat)
      case atStart => exact ⟨0, Nat.zero_le _, by go_num, by simpa using owns_mono HO3.out.1 (belowA _ _), HB4.out.trans ((belowA _ _).mono (by omega)), by simp, by simp [go_sem], by simp [go_sem], cellB (belowA _ _) r0, cellB (belowA _ _) r1, frozenL (belowA _ _) (by simp; omega) f0, frozenL (belowA _ _) (by simp; omega) f1⟩
      case round =>
        clear r0 r1 f0 f1
        obtain ⟨k, hk, rfl, ho, hb, hzr, d0, d1, r0, r1, f0, f1⟩ := hrel
        by_cases hlt : k < x.tones.length
        · rcases HO3.out.1.2 with ⟨e, hn0⟩ | ⟨g, cap, cur, e, hbg, _⟩
          · omega
          · simp only [Value.slice.injEq] at e
            obtain ⟨rfl, _, rfl⟩ := e
            have hg3 := HO3.out.2 g rfl
            obtain ⟨q1, q2⟩ := tr_row x.tones b k hlt
            rw [q1] at ho
            have hlen : (((x.tones.map (trF b)).take k).flatMap Ton.cells).length = k * 3 := by rw [flat_len (f := Ton.cells) (m := 3) (fun _ => rfl), List.length_take, List.length_map, Nat.min_eq_left (by omega)]
            have n0 : wr.cell? ⟨g, k * 3, none⟩ = some (.int .i64 x.tones[k].note) := by
              rw [ho.cellAt _ (by omega), List.getElem?_append_right (by omega), hlen, Nat.sub_self]; rfl
            have fz := ho.frozenAt (k * 3)
            have s1 := stored1 ho hlen (.int .i64 (x.tones[k].note + b))
            rw [q2] at s1
            have ht : Touch g (g + 1) wr (wr.setCell ⟨g, k * 3, none⟩ (.int .i64 (x.tones[k].note + b))) := (Touch.refl g (g + 1) wr).setCell (p := ⟨g, k * 3, none⟩) (by simp) _
            have d0' := cellT ht d0 (Or.inr (by simp; omega))
            have d1' := cellT ht d1 (Or.inr (by simp; omega))
            have r0' := cellT ht r0 (Or.inl (by simp; omega))
            have r1' := cellT ht r1 (Or.inl (by simp; omega))
            have f0' := touch_frozen ht (by simp; omega) (Or.inl (by simp; omega)) f0
            have f1' := touch_frozen ht (by simp; omega) (Or.inl (by simp; omega)) f1
            have hbt : Below w.heap.size w (wr.setCell ⟨g, k * 3, none⟩ (.int .i64 (x.tones[k].note + b))) := ht.below hb (by omega) hb.size
            have hto := tun_tone G.out hlt
            have hno := hto.note
            have hgg := G2.out
            unfold noteOk at hno
            unfold trIn at hgg
            have S1 := Lib.hid s1.1; have D0 := Lib.hid d0'; have D1 := Lib.hid d1'; have R0 := Lib.hid r0'; have R1 := Lib.hid r1'; have F0 := Lib.hid f0'; have F1 := Lib.hid f1'; have BT := Lib.hid hbt
            have hgl : g < wr.heap.size := by omega
            clear s1 d0' d1' r0' r1' f0' f1' hbt ht q1 q2 ho hlen hto
            go_wp2
            go_roundw
            case rel => exact ⟨k + 1, by omega, by go_num, S1.out, BT.out, by simpa [World.setCell] using hzr, D0.out, D1.out, R0.out, R1.out, F0.out, F1.out⟩
            case measure => simp [intOf] <;> omega
        · obtain rfl : k = x.tones.length := by omega
          have e0 : (x.tones.map (trF b)).take x.tones.length ++ x.tones.drop x.tones.length = x.tones.map (trF b) := by rw [List.take_of_length_le (by simp), List.drop_length, List.append_nil]
          rw [e0] at ho
          have hO4 : OwnRow w2.heap.size wr.heap.size wr 55 3 (.slice c1 x.tones.length cap1) (x.tones.map (trF b)).length ((x.tones.map (trF b)).flatMap Ton.cells) := OwnRow.mk' (by rw [List.length_map]; exact ho)
          have HO4 := Lib.hid hO4; have HBr := Lib.hid hb
          clear ho e0 hO4 hb
          go_wp2_with fail
          refine (l25Done_any w2.heap.size _ (.slice c1 x.tones.length cap1) ⟨x.name, x.tones.map (trF b)⟩ _ rfl HO4.out hn (by omega) (tr_srt b G.out)).mono ?_
          rintro e w4 ⟨v4, rfl, ho5, hb5⟩
          obtain ⟨c5, cap5, rfl⟩ := ho5.form
          have hz5 := hb5.size
          have r0 := cellB hb5 r0
          have r1 := cellB hb5 r1
          have f0 := frozenL hb5 (by simp; omega) f0
          have f1 := frozenL hb5 (by simp; omega) f1
          have hz6 : w.heap.size + 1 < w4.heap.size := by omega
          have HB5 := Lib.hid (HBr.out.trans (hb5.mono HBr.out.size))
          have HO5 := Lib.hid ho5
          clear hb5 ho5 d0 d1
          go_wp2
          refine bodyPost_ret (v := .tuple #[.agg #[.string (toV x.name (x.tones.map (trF b))).name, .slice c5 (toV x.name (x.tones.map (trF b))).tones.length cap5], .int .i64 (toC x.name (x.tones.map (trF b)))]) (by simp [results, Try.results34, go_sem, hz6, r0, r1]) rfl ⟨_, by rw [E2.out], ?_, ?_⟩
          · rw [E1.out]
            refine (HO5.out.touch (B' := w.heap.size + 1) (E' := w.heap.size + 2) ?_ (Or.inr hw2)).wide (by omega) (by simp)
            have htc := Touch.refl (w.heap.size + 1) (w.heap.size + 2) w4
            (repeat (first | with_reducible exact Touch.refl _ _ _ | with_reducible exact htc | (with_reducible refine Touch.setCell ?_ ?_ _; rotate_left; · (simp only; omega)) | (with_reducible refine Touch.setNew ?_ ?_ _; rotate_left; · (first | (simp only; omega) | (simp; done) | (simp; omega))) | with_reducible refine Touch.alloc ?_ _ | with_reducible refine Touch.drewN ?_ _ | with_reducible refine Touch.drew ?_))
          · have hbw := HB5.out
            (repeat (first | with_reducible exact Below.refl _ _ | with_reducible exact hbw | (with_reducible refine Below.setCell ?_ ?_ _; rotate_left; · first | exact Nat.le_refl _ | omega | (simp; done) | (simp; omega)) | (with_reducible refine Below.alloc ?_ ?_ _; rotate_left; · first | exact Nat.le_refl _ | omega | (simp; done) | (simp; omega)) | with_reducible refine below_drewN ?_ _ | with_reducible refine Below.drew ?_))
    · obtain ⟨e1, e2⟩ := tr_rng g g2
      have E1 := Lib.hid e1; have E2 := Lib.hid e2; have G := Lib.hid g; have G2 := Lib.hid g2; clear e1 e2 g g2
      go_enter Try.func34, Try.ntmps34
      go_wp2_with fail
      refine (l25Ok_any _ (.slice a x.tones.length ca) x _ ⟨by simp [go_sem], by simp [go_sem], hlv.mono (by (repeat (first | with_reducible exact Below.refl _ _ | with_reducible exact hbw | (with_reducible refine Below.setCell ?_ ?_ _; rotate_left; · first | exact Nat.le_refl _ | omega | (simp; done) | (simp; omega)) | (with_reducible refine Below.alloc ?_ ?_ _; rotate_left; · first | exact Nat.le_refl _ | omega | (simp; done) | (simp; omega)) | with_reducible refine below_drewN ?_ _ | with_reducible refine Below.drew ?_))), hn⟩).mono ?_
      rintro e w1 ⟨rfl, hb⟩
      have HB := Lib.hid (show Below w.heap.size w w1 from Below.trans (by (repeat (first | with_reducible exact Below.refl _ _ | with_reducible exact hbw | (with_reducible refine Below.setCell ?_ ?_ _; rotate_left; · first | exact Nat.le_refl _ | omega | (simp; done) | (simp; omega)) | (with_reducible refine Below.alloc ?_ ?_ _; rotate_left; · first | exact Nat.le_refl _ | omega | (simp; done) | (simp; omega)) | with_reducible refine below_drewN ?_ _ | with_reducible refine Below.drew ?_))) (hb.mono (by simp <;> omega)))
      have hz : w.heap.size + 2 ≤ w1.heap.size := by have := hb.size; simp at this; omega
      have z0 : w1.cell? ⟨w.heap.size, 0, none⟩ = some (.string x.name) := cellB hb (by simp [go_sem])
      have z1 : w1.cell? ⟨w.heap.size, 1, none⟩ = some (.slice a x.tones.length ca) := cellB hb (by simp [go_sem])
      have r0 : w1.cell? ⟨w.heap.size + 1, 0, none⟩ = some (.string ⟨#[]⟩) := cellB hb (by simp [go_sem])
      have r1 : w1.cell? ⟨w.heap.size + 1, 1, none⟩ = some (.slice none 0 0) := cellB hb (by simp [go_sem])
      have f0 : w1.frozen? ⟨w.heap.size + 1, 0, none⟩ = false := frozenL hb (by simp) (by simp [go_sem])
      have f1 : w1.frozen? ⟨w.heap.size + 1, 1, none⟩ = false := frozenL hb (by simp) (by simp [go_sem])
      have hz0 : w.heap.size < w1.heap.size := by omega
      have hz2 : w.heap.size + 1 < w1.heap.size := by omega
      clear hb
      rw [G.out]
      go_wp2_with fail
      refine (l00In_any false _ _ _ _ (noB G2.out)).mono ?_
      rintro e w2 ⟨rfl, rfl⟩
      go_wp2
      refine bodyPost_ret (v := .tuple #[.agg #[.string ⟨#[]⟩, .slice none 0 0], .int .i64 2]) (by simp [results, Try.results34, go_sem, hz2, r0, r1]) rfl ⟨_, by rw [E2.out], by rw [E1.out]; exact ownT_zero _ _ _, ?_⟩
      have hbw := HB.out
      (repeat (first | with_reducible exact Below.refl _ _ | with_reducible exact hbw | (with_reducible refine Below.setCell ?_ ?_ _; rotate_left; · first | exact Nat.le_refl _ | omega | (simp; done) | (simp; omega)) | (with_reducible refine Below.alloc ?_ ?_ _; rotate_left; · first | exact Nat.le_refl _ | omega | (simp; done) | (simp; omega)) | with_reducible refine below_drewN ?_ _ | with_reducible refine Below.drew ?_))
  · obtain ⟨e1, e2⟩ := tr_inv (b := b) g
    have E1 := Lib.hid e1; have E2 := Lib.hid e2; have G := Lib.hid (show validTunB x = false by simpa using g); clear e1 e2 g
    go_enter Try.func34, Try.ntmps34
    go_wp2_with fail
    refine (l25Ok_any _ (.slice a x.tones.length ca) x _ ⟨by simp [go_sem], by simp [go_sem], hlv.mono (by (repeat (first | with_reducible exact Below.refl _ _ | with_reducible exact hbw | (with_reducible refine Below.setCell ?_ ?_ _; rotate_left; · first | exact Nat.le_refl _ | omega | (simp; done) | (simp; omega)) | (with_reducible refine Below.alloc ?_ ?_ _; rotate_left; · first | exact Nat.le_refl _ | omega | (simp; done) | (simp; omega)) | with_reducible refine below_drewN ?_ _ | with_reducible refine Below.drew ?_))), hn⟩).mono ?_
    rintro e w1 ⟨rfl, hb⟩
    have HB := Lib.hid (show Below w.heap.size w w1 from Below.trans (by (repeat (first | with_reducible exact Below.refl _ _ | with_reducible exact hbw | (with_reducible refine Below.setCell ?_ ?_ _; rotate_left; · first | exact Nat.le_refl _ | omega | (simp; done) | (simp; omega)) | (with_reducible refine Below.alloc ?_ ?_ _; rotate_left; · first | exact Nat.le_refl _ | omega | (simp; done) | (simp; omega)) | with_reducible refine below_drewN ?_ _ | with_reducible refine Below.drew ?_))) (hb.mono (by simp <;> omega)))
    have hz : w.heap.size + 2 ≤ w1.heap.size := by have := hb.size; simp at this; omega
    have z0 : w1.cell? ⟨w.heap.size, 0, none⟩ = some (.string x.name) := cellB hb (by simp [go_sem])
    have z1 : w1.cell? ⟨w.heap.size, 1, none⟩ = some (.slice a x.tones.length ca) := cellB hb (by simp [go_sem])
    have r0 : w1.cell? ⟨w.heap.size + 1, 0, none⟩ = some (.string ⟨#[]⟩) := cellB hb (by simp [go_sem])
    have r1 : w1.cell? ⟨w.heap.size + 1, 1, none⟩ = some (.slice none 0 0) := cellB hb (by simp [go_sem])
    have f0 : w1.frozen? ⟨w.heap.size + 1, 0, none⟩ = false := frozenL hb (by simp) (by simp [go_sem])
    have f1 : w1.frozen? ⟨w.heap.size + 1, 1, none⟩ = false := frozenL hb (by simp) (by simp [go_sem])
    have hz0 : w.heap.size < w1.heap.size := by omega
    have hz2 : w.heap.size + 1 < w1.heap.size := by omega
    clear hb
    rw [G.out]
    go_wp2
    refine bodyPost_ret (v := .tuple #[.agg #[.string ⟨#[]⟩, .slice none 0 0], .int .i64 1]) (by simp [results, Try.results34, go_sem, hz2, r0, r1]) rfl ⟨_, by rw [E2.out], by rw [E1.out]; exact ownT_zero _ _ _, ?_⟩
    have hbw := HB.out
    (repeat (first | with_reducible exact Below.refl _ _ | with_reducible exact hbw | (with_reducible refine Below.setCell ?_ ?_ _; rotate_left; · first | exact Nat.le_refl _ | omega | (simp; done) | (simp; omega)) | (with_reducible refine Below.alloc ?_ ?_ _; rotate_left; · first | exact Nat.le_refl _ | omega | (simp; done) | (simp; omega)) | with_reducible refine below_drewN ?_ _ | with_reducible refine Below.drew ?_))

end Go.Proofs.Ytfnbjegbaobpnaa
