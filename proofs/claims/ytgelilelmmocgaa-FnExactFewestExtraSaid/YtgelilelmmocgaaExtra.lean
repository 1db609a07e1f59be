/- Contracts of extraNotes and l26Extra. -/
import Derived.Test.YtgelilelmmocgaaNotesE
import Derived.Test.YtgelilelmmocgaaExtraL
import Derived.Test.YtgelilelmmocgaaMiss
set_option linter.unusedSimpArgs false
set_option linter.unnecessarySimpa false
set_option linter.unusedVariables false
set_option maxRecDepth 100000
namespace Go.Proofs.Ytgelilelmmocgaa
open Go.RowKit

theorem note_sel (x : TunD) {k : Nat} (h : k < x.tones.length) : ∃ h' : k < (sel allT x.tones).length, (sel allT x.tones)[k] = x.tones[k].note := by
  have e : sel allT x.tones = x.tones.map Ton.note := by
    unfold sel allT; rw [List.filter_eq_self.2 (by simp)]
  refine ⟨by rw [e]; simpa using h, ?_⟩
  simp [e]
theorem sel_bd {x : TunD} (ok : validTunB x = true) : ∀ z ∈ sel allT x.tones, 0 ≤ z ∧ z ≤ 127 := by
  intro z hz
  unfold sel at hz
  obtain ⟨t, ht, rfl⟩ := List.mem_map.1 hz
  obtain ⟨j, hj, rfl⟩ := List.getElem_of_mem (List.mem_filter.1 ht).1
  exact (tun_tone ok hj).noteIn

set_option maxHeartbeats 2000000 in
theorem extraNotes_any (vt lv v : Value) (x : TunD) (ns : List Int) (b : Int) (w : World) (h : Tun w vt lv x) (hn : Ints w v ns) (ok : validTunB x = true) (hv : validSet ns = true) (hs : shiftIn b) :
    Calls Try.prog 78 #[vt, v, .int .i64 b] w fun e w' => ∃ v', e = .returned (.tuple #[v', .bool (exB b (sel allT x.tones))]) ∧ OwnInts w.heap.size w'.heap.size w' v' (exV ns b (sel allT x.tones)) ∧ Below w.heap.size w w' := by
  have hl := tun_len ok
  have BD := Lib.hid (show ∀ z ∈ notesOfL (sel allT x.tones), 0 ≤ z ∧ z ≤ 127 from fun z hz => sel_bd ok z ((notesOfL_mem _ _).1 hz))
  have VS := Lib.hid (fun (z : Int) (hz : z ∈ ns) => validSet_in hv hz)
  clear hv
  have OK := Lib.hid ok; clear ok
  obtain ⟨a1, cs1, rfl, _, _, _⟩ := id hn
  obtain ⟨s1, s2⟩ := hs
  have hzl : (notesOfL (sel allT x.tones)).length ≤ 128 := by
    have h1 := notesOfL_len (sel allT x.tones); have h2 := sel_len allT x.tones x.tones.length; rw [sel_all _ _ (Nat.le_refl _)] at h2; omega
  obtain ⟨zs, hz⟩ : ∃ zs, zs = notesOfL (sel allT x.tones) := ⟨_, rfl⟩
  rw [← hz] at BD hzl
  have ZE := Lib.hid hz; clear hz
  obtain ⟨R1, hR1⟩ : ∃ r, r = exB b (sel allT x.tones) := ⟨_, rfl⟩
  obtain ⟨R2, hR2⟩ : ∃ r, r = exV ns b (sel allT x.tones) := ⟨_, rfl⟩
  rw [← hR1, ← hR2]
  have YES := Lib.hid (show okZs b zs → R1 = true ∧ R2 = exL ns b zs from fun h => by
    rw [hR1, hR2, ZE.out]
    have h' : okZs b (sel allT x.tones) := (okZs_notes _ _).1 (by rw [← ZE.out]; exact h)
    exact ⟨exB_yes h', by rw [exV_yes h', exL_notes]⟩)
  have NO := Lib.hid (show ¬ okZs b zs → R1 = false ∧ R2 = [] from fun h => by
    rw [hR1, hR2]
    have h' : ¬ okZs b (sel allT x.tones) := fun h' => h (by rw [ZE.out]; exact (okZs_notes _ _).2 h')
    exact ⟨exB_no h', exV_no h'⟩)
  clear hR1 hR2
  obtain ⟨rfl, hlv⟩ := id h
  go_enter Try.func78, Try.ntmps78
  go_wp2_with fail
  refine (notesAll_any _ lv x _ ⟨rfl, hlv.mono (by (repeat (first | with_reducible exact Below.refl _ _ | with_reducible exact hbw | (with_reducible refine Below.setCell ?_ ?_ _; rotate_left; · first | exact Nat.le_refl _ | omega | (simp; done) | (simp; omega)) | (with_reducible refine Below.alloc ?_ ?_ _; rotate_left; · first | exact Nat.le_refl _ | omega | (simp; done) | (simp; omega)) | with_reducible refine below_drewN ?_ _ | with_reducible refine Below.drew ?_)))⟩ (by omega)).mono ?_
  rintro e w1 ⟨v1, rfl, ho1, hb1⟩
  rw [← ZE.out] at ho1
  have hw1 : Below w.heap.size w w1 := Below.trans (by (repeat (first | with_reducible exact Below.refl _ _ | with_reducible exact hbw | (with_reducible refine Below.setCell ?_ ?_ _; rotate_left; · first | exact Nat.le_refl _ | omega | (simp; done) | (simp; omega)) | (with_reducible refine Below.alloc ?_ ?_ _; rotate_left; · first | exact Nat.le_refl _ | omega | (simp; done) | (simp; omega)) | with_reducible refine below_drewN ?_ _ | with_reducible refine Below.drew ?_))) (hb1.mono (by simp <;> omega))
  have ho1' : Ints w1 v1 zs := Sl.of_owns ho1.1
  clear ho1 hb1
  obtain ⟨b1, cb1, rfl, hcb, hcm, _⟩ := id ho1'
  have hsz1 := hw1.size
  go_wp2_with fail
  go_loopw [8, 14, 10] (fun o i _ wr => ∃ (k : Nat) (a' : Option Addr) (c' : Nat), k ≤ zs.length ∧ i = .int .i64 (k : Int) ∧ o = .slice a' (exL ns b (zs.take k)).length c' ∧ wr.ownsRow w1.heap.size 2 1 (.slice a' (exL ns b (zs.take k)).length c') (exL ns b (zs.take k)).length ((exL ns b (zs.take k)).map (Value.int .i64)) ∧ okZs b (zs.take k) ∧ Below w1.heap.size w1 wr) (fun _ i _ _ => zs.length - (intOf i).toNat)
  case atStart => exact ⟨0, none, 0, Nat.zero_le _, by go_num, rfl, owns_nil _ _ _ _, okZs_zero _ _, Below.refl _ _⟩
  case round =>
    obtain ⟨k, a2, c2, hk, rfl, rfl, ho, hok, hb⟩ := hrel
    have hz := hb.size
    have HK := Lib.hid hok; clear hok
    by_cases hlt : k < zs.length
    · obtain ⟨p, o, rfl, c1⟩ := (ho1'.mono hb).cells (by simp; omega)
      have hp : wr.cell? ⟨p, o + k, none⟩ = some (.int .i64 zs[k]) := c1 k _ (by simp [hlt])
      clear c1
      have lp := World.block_lt_of_cell? _ _ hp
      simp only at lp
      have lp1 : p < wr.heap.size + 1 := by omega
      obtain ⟨n1, n2⟩ := BD.out _ (List.getElem_mem hlt)
      have w1' : IntKind.i64.wrap (zs[k] + b) = zs[k] + b := IntWalk.i64_in _ (by omega)
      have hn1 := hn.mono (hw1.trans (hb.mono hsz1))
      by_cases g : zs[k] + b ∈ ns
      · have M := Lib.hid (exL_in hlt g)
        have OZ := Lib.hid (show okZ b zs[k] from VS.out _ g)
        have G := Lib.hid (show true = decide (zs[k] + b ∈ ns) by simpa using g); clear g
        go_wp2_with fail
        refine (containsI_any true _ ns _ _ (Ints.mono hn1 (by (repeat (first | with_reducible exact Below.refl _ _ | with_reducible exact hbw | (with_reducible refine Below.setCell ?_ ?_ _; rotate_left; · first | exact Nat.le_refl _ | omega | (simp; done) | (simp; omega)) | (with_reducible refine Below.alloc ?_ ?_ _; rotate_left; · first | exact Nat.le_refl _ | omega | (simp; done) | (simp; omega)) | with_reducible refine below_drewN ?_ _ | with_reducible refine Below.drew ?_)))) G.out).mono ?_
        rintro e w2 ⟨rfl, hq1⟩
        have hst : Below wr.heap.size wr w2 := Below.trans (by (repeat (first | with_reducible exact Below.refl _ _ | with_reducible exact hbw | (with_reducible refine Below.setCell ?_ ?_ _; rotate_left; · first | exact Nat.le_refl _ | omega | (simp; done) | (simp; omega)) | (with_reducible refine Below.alloc ?_ ?_ _; rotate_left; · first | exact Nat.le_refl _ | omega | (simp; done) | (simp; omega)) | with_reducible refine below_drewN ?_ _ | with_reducible refine Below.drew ?_))) (hq1.below _)
        go_wp2
        go_roundw
        case rel => exact ⟨k + 1, a2, c2, by omega, by go_num, by rw [M.out], by rw [M.out]; exact owns_mono ho hst, okZs_step hlt HK.out OZ.out, hb.trans (hst.mono hz)⟩
        case measure => simp [intOf] <;> omega
      · by_cases g2 : okZ b zs[k]
        · have M := Lib.hid (exL_out hlt g)
          have OZ := Lib.hid g2
          have G := Lib.hid (show false = decide (zs[k] + b ∈ ns) by simpa using g); clear g
          have G2 := Lib.hid (show true = decide (0 ≤ zs[k] + b ∧ zs[k] + b ≤ 127) by unfold okZ at g2; simpa using g2); clear g2
          have hxl := exL_len ns b (zs.take k)
          rw [List.length_take] at hxl
          go_wp2_with fail
          refine (containsI_any false _ ns _ _ (Ints.mono hn1 (by (repeat (first | with_reducible exact Below.refl _ _ | with_reducible exact hbw | (with_reducible refine Below.setCell ?_ ?_ _; rotate_left; · first | exact Nat.le_refl _ | omega | (simp; done) | (simp; omega)) | (with_reducible refine Below.alloc ?_ ?_ _; rotate_left; · first | exact Nat.le_refl _ | omega | (simp; done) | (simp; omega)) | with_reducible refine below_drewN ?_ _ | with_reducible refine Below.drew ?_)))) G.out).mono ?_
          rintro e w2 ⟨rfl, hq1⟩
          have hst : Below wr.heap.size wr w2 := Below.trans (by (repeat (first | with_reducible exact Below.refl _ _ | with_reducible exact hbw | (with_reducible refine Below.setCell ?_ ?_ _; rotate_left; · first | exact Nat.le_refl _ | omega | (simp; done) | (simp; omega)) | (with_reducible refine Below.alloc ?_ ?_ _; rotate_left; · first | exact Nat.le_refl _ | omega | (simp; done) | (simp; omega)) | with_reducible refine below_drewN ?_ _ | with_reducible refine Below.drew ?_))) (hq1.below _)
          clear hq1
          have ho2 := owns_mono ho hst
          have hb2 := hb.trans (hst.mono hz)
          have hsz2 := hb2.size
          go_wp2_with fail
          refine (isNoteS_any true _ _ G2.out).mono ?_
          rintro e w3 ⟨rfl, rfl⟩
          go_wp2_with (at_builtin; refine append_one rfl _ _ 22 rfl w1.heap.size 2 (.int .i64 0) 1 8 Try.underlying22 info_int64 rfl (by decide) _ (exL ns b (zs.take k)).length _ rfl ho2 [.int .i64 (zs[k] + b)] rfl (by simp [Value.oneCell']) rfl (by omega) (by decide) hsz2 ?_)
          intro a' cap' w3 ho3 _ hb3
          go_wp2
          go_roundw
          case rel => exact ⟨k + 1, a', cap', by omega, by go_num, by rw [M.out]; simp, by rw [M.out]; simpa using ho3, okZs_step hlt HK.out OZ.out, hb2.trans hb3⟩
          case measure => simp [intOf] <;> omega
        · have A := Lib.hid (NO.out (okZs_not hlt g2))
          have G := Lib.hid (show false = decide (zs[k] + b ∈ ns) by simpa using g); clear g
          have G2 := Lib.hid (show false = decide (0 ≤ zs[k] + b ∧ zs[k] + b ≤ 127) by unfold okZ at g2; simp; omega); clear g2
          go_wp2_with fail
          refine (containsI_any false _ ns _ _ (Ints.mono hn1 (by (repeat (first | with_reducible exact Below.refl _ _ | with_reducible exact hbw | (with_reducible refine Below.setCell ?_ ?_ _; rotate_left; · first | exact Nat.le_refl _ | omega | (simp; done) | (simp; omega)) | (with_reducible refine Below.alloc ?_ ?_ _; rotate_left; · first | exact Nat.le_refl _ | omega | (simp; done) | (simp; omega)) | with_reducible refine below_drewN ?_ _ | with_reducible refine Below.drew ?_)))) G.out).mono ?_
          rintro e w2 ⟨rfl, hq1⟩
          have hst : Below wr.heap.size wr w2 := Below.trans (by (repeat (first | with_reducible exact Below.refl _ _ | with_reducible exact hbw | (with_reducible refine Below.setCell ?_ ?_ _; rotate_left; · first | exact Nat.le_refl _ | omega | (simp; done) | (simp; omega)) | (with_reducible refine Below.alloc ?_ ?_ _; rotate_left; · first | exact Nat.le_refl _ | omega | (simp; done) | (simp; omega)) | with_reducible refine below_drewN ?_ _ | with_reducible refine Below.drew ?_))) (hq1.below _)
          clear hq1
          go_wp2_with fail
          refine (isNoteS_any false _ _ G2.out).mono ?_
          rintro e w3 ⟨rfl, rfl⟩
          go_wp2
          go_ret2
          exact ⟨_, by rw [A.out.1]; rfl, by rw [A.out.2]; exact OwnInts.nil _ _ _, hw1.trans ((hb.trans (hst.mono hz)).mono hsz1)⟩
    · have A := Lib.hid (YES.out (okZs_all (by omega) HK.out))
      have E := Lib.hid (show exL ns b (zs.take k) = exL ns b zs by rw [List.take_of_length_le (by omega)])
      rw [E.out] at ho
      rw [E.out]
      go_wp2
      go_ret2
      exact ⟨_, by rw [A.out.1]; rfl, by rw [A.out.2]; exact OwnRow.mk' (owns_base ho hsz1), hw1.trans (hb.mono hsz1)⟩

theorem sel_eq (x : TunD) : sel allT x.tones = x.tones.map Ton.note := by unfold sel allT; rw [List.filter_eq_self.2 (by simp)]

set_option maxHeartbeats 2000000 in
theorem l26Extra_any (kb : Nat) (lv v : Value) (x : TunD) (ns : List Int) (b : Int) (w : World) (h : TunIn w kb lv x) (hn : Ints w v ns) (ok : validTunB x = true) (hs : shiftIn b) :
    Calls Try.prog 77 #[.pointer (some ⟨kb, 0, none⟩), v, .int .i64 b] w fun e w' => ∃ v', e = .returned (.tuple #[v', .bool (exB b (sel allT x.tones))]) ∧ OwnInts w.heap.size w'.heap.size w' v' (exV ns b (sel allT x.tones)) ∧ Below w.heap.size w w' := by
  obtain ⟨c0, c1, hlv, hnm⟩ := h
  obtain ⟨a, ca, rfl, hca, hcm, _⟩ := id hlv
  obtain ⟨a1, cs1, rfl, _, _, _⟩ := id hn
  have hl := tun_len ok
  have lk := World.block_lt_of_cell? _ _ c0
  simp only at lk
  have OK := Lib.hid ok; clear ok
  obtain ⟨s1, s2⟩ := hs
  obtain ⟨zs, hz⟩ : ∃ zs, zs = sel allT x.tones := ⟨_, rfl⟩
  rw [← hz]
  have hzl : zs.length = x.tones.length := by rw [hz, sel_eq]; simp
  have ZK := Lib.hid (show ∀ (k : Nat) (h1 : k < x.tones.length) (h2 : k < zs.length), zs[k] = x.tones[k].note from fun k h1 h2 => by subst hz; simp [sel_eq])
  clear hz
  obtain ⟨R1, hR1⟩ : ∃ r, r = exB b zs := ⟨_, rfl⟩
  obtain ⟨R2, hR2⟩ : ∃ r, r = exV ns b zs := ⟨_, rfl⟩
  rw [← hR1, ← hR2]
  have YES := Lib.hid (show okZs b zs → R1 = true ∧ R2 = notesOfL (exL ns b zs) from fun h => by rw [hR1, hR2]; exact ⟨exB_yes h, exV_yes h⟩)
  have NO := Lib.hid (show ¬ okZs b zs → R1 = false ∧ R2 = [] from fun h => by rw [hR1, hR2]; exact ⟨exB_no h, exV_no h⟩)
  clear hR1 hR2
  go_enter Try.func77, Try.ntmps77
  go_wp2_with fail
  go_loopw [8, 9, 10] (fun o i _ wr => ∃ (k : Nat) (ys : List Int) (a' : Option Addr) (c' : Nat), k ≤ x.tones.length ∧ i = .int .i64 (k : Int) ∧ ys = notesOfL (exL ns b (zs.take k)) ∧ o = .slice a' ys.length c' ∧ wr.ownsRow w.heap.size 2 1 (.slice a' ys.length c') ys.length (ys.map (Value.int .i64)) ∧ okZs b (zs.take k) ∧ Below w.heap.size w wr) (fun _ i _ _ => x.tones.length - (intOf i).toNat)
  case atStart => exact ⟨0, [], _, _, Nat.zero_le _, by go_num, rfl, rfl, owns_empty _ _ 1 _ (Nat.le_refl _), okZs_zero _ _, by (repeat (first | with_reducible exact Below.refl _ _ | with_reducible exact hbw | (with_reducible refine Below.setCell ?_ ?_ _; rotate_left; · first | exact Nat.le_refl _ | omega | (simp; done) | (simp; omega)) | (with_reducible refine Below.alloc ?_ ?_ _; rotate_left; · first | exact Nat.le_refl _ | omega | (simp; done) | (simp; omega)) | with_reducible refine below_drewN ?_ _ | with_reducible refine Below.drew ?_))⟩
  case round =>
    obtain ⟨k, ys, a2, c2, hk, rfl, hys, rfl, ho, hok, hb⟩ := hrel
    have hz := hb.size
    have HK := Lib.hid hok; clear hok
    have HY := Lib.hid hys; clear hys
    have u0 := cellB hb c0
    have u1 := cellB hb c1
    by_cases hlt : k < x.tones.length
    · have hlt2 : k < zs.length := by omega
      obtain ⟨b1, o1, rfl, hT⟩ := TonIn.of (hlv.mono hb) hlt
      obtain ⟨_, d0, d1, d2⟩ := hT
      obtain ⟨n1, n2⟩ := (tun_tone OK.out hlt).noteIn
      have EK := Lib.hid (ZK.out k hlt hlt2)
      have w1' : IntKind.i64.wrap (x.tones[k].note + b) = x.tones[k].note + b := IntWalk.i64_in _ (by omega)
      have hn1 := hn.mono hb
      have hyl : ys.length ≤ 1048576 := by rw [HY.out]; have h1 := notesOfL_len (exL ns b (zs.take k)); have h2 := exL_len ns b (zs.take k); rw [List.length_take] at h2; omega
      by_cases g2 : okZ b zs[k]
      · have OZ := Lib.hid g2
        have G2 := Lib.hid (show true = decide (0 ≤ x.tones[k].note + b ∧ x.tones[k].note + b ≤ 127) by unfold okZ at g2; rw [EK.out] at g2; simpa using g2); clear g2
        by_cases g : zs[k] + b ∈ ns
        · have M := Lib.hid (exL_in hlt2 g)
          have G := Lib.hid (show true = decide (x.tones[k].note + b ∈ ns) by rw [EK.out] at g; simpa using g); clear g
          go_wp2_with fail
          refine (l00In_any true _ _ _ _ G2.out).mono ?_
          rintro e wr ⟨rfl, rfl⟩
          go_wp2_with fail
          refine (l00HasB_any true _ ns _ _ hn1 G.out).mono ?_
          rintro e w2 ⟨rfl, hq1⟩
          have hst : Below wr.heap.size wr w2 := hq1.below _
          go_wp2
          go_roundw
          case rel => exact ⟨k + 1, ys, a2, c2, by omega, by go_num, by rw [M.out, HY.out], rfl, owns_mono ho hst, okZs_step hlt2 HK.out OZ.out, hb.trans (hst.mono hz)⟩
          case measure => simp [intOf] <;> omega
        · have M := Lib.hid (exL_out hlt2 g)
          have G := Lib.hid (show false = decide (x.tones[k].note + b ∈ ns) by rw [EK.out] at g; simpa using g); clear g
          go_wp2_with fail
          refine (l00In_any true _ _ _ _ G2.out).mono ?_
          rintro e wr ⟨rfl, rfl⟩
          go_wp2_with fail
          refine (l00HasB_any false _ ns _ _ hn1 G.out).mono ?_
          rintro e w2 ⟨rfl, hq1⟩
          have hst : Below wr.heap.size wr w2 := hq1.below _
          have ho2 := owns_mono ho hst
          have hb2 := hb.trans (hst.mono hz)
          have hsz2 := hb2.size
          clear hq1
          go_wp2_with fail
          refine (l00Put_any _ ys (x.tones[k].note + b) _ (Sl.of_owns ho2) (by omega)).mono ?_
          rintro e w3 ⟨v2, rfl, ho3, hb3⟩
          obtain ⟨a3, c3, rfl⟩ := owns_slice ho3
          have hb4 := hb2.trans (hb3.mono hsz2)
          go_wp2
          go_roundw
          case rel => exact ⟨k + 1, putI ys (x.tones[k].note + b), a3, c3, by omega, by go_num, by rw [M.out, notesOfL_snoc, HY.out, EK.out], rfl, owns_base ho3 hsz2, okZs_step hlt2 HK.out OZ.out, hb4⟩
          case measure => simp [intOf] <;> omega
      · have A := Lib.hid (NO.out (okZs_not hlt2 g2))
        have G2 := Lib.hid (show false = decide (0 ≤ x.tones[k].note + b ∧ x.tones[k].note + b ≤ 127) by unfold okZ at g2; rw [EK.out] at g2; simp; omega); clear g2
        go_wp2_with fail
        refine (l00In_any false _ _ _ _ G2.out).mono ?_
        rintro e w2 ⟨rfl, rfl⟩
        go_wp2
        go_ret2
        exact ⟨_, by rw [A.out.1]; rfl, by rw [A.out.2]; exact OwnInts.nil _ _ _, hb⟩
    · have A := Lib.hid (YES.out (okZs_all (by omega) HK.out))
      have E := Lib.hid (show ys = notesOfL (exL ns b zs) by rw [HY.out, List.take_of_length_le (by omega)])
      go_wp2
      go_ret2
      exact ⟨_, by rw [A.out.1]; rfl, by rw [A.out.2, ← E.out]; exact OwnRow.mk' ho, hb⟩

noncomputable def enV (x : TunD) (ns : List Int) (b : Int) : List Int := if askC x ns b = 0 then exV ns b (sel allT x.tones) else []
noncomputable def enC (x : TunD) (ns : List Int) (b : Int) : Int := if askC x ns b = 0 then (if exB b (sel allT x.tones) = true then 0 else 6) else askC x ns b
theorem en_len (x : TunD) (ns : List Int) (b : Int) (h : x.tones.length ≤ 1048576) : (enV x ns b).length ≤ 1048576 := by
  unfold enV; split
  · have := exV_len ns b (sel allT x.tones); rw [sel_eq] at *; simp at *; omega
  · simp

set_option maxHeartbeats 1000000 in
theorem specExtraNotes_any (v : Value) (x : TunD) (v2 : Value) (ns : List Int) (b : Int) (w : World) (h : RdTun w v x) (ok : x.ok) (_ : x.tones.length ≤ 1048576) (hn : RdInts w v2 ns) (_ : ∀ x ∈ ns, I64 x) (_ : ns.length ≤ 1048576) (_ : I64 b) :
    Calls Try.prog 33 #[v, v2, .int .i64 b] w fun e w' => ∃ v', e = .returned (.tuple #[v', .int .i64 (enC x ns b)]) ∧ OwnInts w.heap.size w'.heap.size w' v' (enV x ns b) ∧ Below w.heap.size w w' := by
  obtain ⟨lv, rfl, hlv⟩ := h
  have hn : Ints w v2 ns := hn
  obtain ⟨a1, cs1, rfl, _, _, _⟩ := id hn
  by_cases ga : askC x ns b = 0
  · have AV := Lib.hid (ask_zero.1 ga)
    have E := Lib.hid (show enV x ns b = exV ns b (sel allT x.tones) by unfold enV; rw [if_pos ga])
    have EC := Lib.hid (show enC x ns b = if exB b (sel allT x.tones) = true then 0 else 6 by unfold enC; rw [if_pos ga])
    have d0 : (askC x ns b != 0) = false := by simpa using ga
    have A0 := Lib.hid ga; clear ga
    by_cases f : exB b (sel allT x.tones) = true
    · have F := Lib.hid f; clear f
      go_enter Try.func33, Try.ntmps33
      go_wp2_with fail
      refine (l26Ask_any _ lv _ x ns b _ ⟨by simp [go_sem], by simp [go_sem], hlv.mono (by (repeat (first | with_reducible exact Below.refl _ _ | with_reducible exact hbw | (with_reducible refine Below.setCell ?_ ?_ _; rotate_left; · first | exact Nat.le_refl _ | omega | (simp; done) | (simp; omega)) | (with_reducible refine Below.alloc ?_ ?_ _; rotate_left; · first | exact Nat.le_refl _ | omega | (simp; done) | (simp; omega)) | with_reducible refine below_drewN ?_ _ | with_reducible refine Below.drew ?_))), ok.1⟩ (Ints.mono hn (by (repeat (first | with_reducible exact Below.refl _ _ | with_reducible exact hbw | (with_reducible refine Below.setCell ?_ ?_ _; rotate_left; · first | exact Nat.le_refl _ | omega | (simp; done) | (simp; omega)) | (with_reducible refine Below.alloc ?_ ?_ _; rotate_left; · first | exact Nat.le_refl _ | omega | (simp; done) | (simp; omega)) | with_reducible refine below_drewN ?_ _ | with_reducible refine Below.drew ?_))))).mono ?_
      rintro e w1 ⟨rfl, hb⟩
      have hbw : Below w.heap.size w w1 := Below.trans (by (repeat (first | with_reducible exact Below.refl _ _ | with_reducible exact hbw | (with_reducible refine Below.setCell ?_ ?_ _; rotate_left; · first | exact Nat.le_refl _ | omega | (simp; done) | (simp; omega)) | (with_reducible refine Below.alloc ?_ ?_ _; rotate_left; · first | exact Nat.le_refl _ | omega | (simp; done) | (simp; omega)) | with_reducible refine below_drewN ?_ _ | with_reducible refine Below.drew ?_))) (hb.mono (by simp <;> omega))
      have y0 : w1.cell? ⟨w.heap.size, 0, none⟩ = some (.string x.name) := cellB hb (by simp [go_sem])
      have y1 : w1.cell? ⟨w.heap.size, 1, none⟩ = some lv := cellB hb (by simp [go_sem])
      clear hb
      go_wp2_with fail
      refine (l26Extra_any _ lv _ x ns b _ ⟨y0, y1, hlv.mono hbw, ok.1⟩ (Ints.mono hn hbw) AV.out.1 AV.out.2.2).mono ?_
      rw [F.out]
      rintro e w2 ⟨v3, rfl, ho3, h2⟩
      have hb2 := hbw.trans (h2.mono hbw.size)
      rw [← E.out] at ho3
      go_wp2
      go_ret2
      exact ⟨_, by rw [EC.out, if_pos F.out]; rfl, ⟨owns_base ho3.1 hbw.size, ho3.2⟩, hb2⟩
    · have f' : exB b (sel allT x.tones) = false := by simpa using f
      have NF := Lib.hid f
      have EN := Lib.hid (show exV ns b (sel allT x.tones) = [] from exV_no fun h => f (exB_yes h))
      have F := Lib.hid f'; clear f f'
      go_enter Try.func33, Try.ntmps33
      go_wp2_with fail
      refine (l26Ask_any _ lv _ x ns b _ ⟨by simp [go_sem], by simp [go_sem], hlv.mono (by (repeat (first | with_reducible exact Below.refl _ _ | with_reducible exact hbw | (with_reducible refine Below.setCell ?_ ?_ _; rotate_left; · first | exact Nat.le_refl _ | omega | (simp; done) | (simp; omega)) | (with_reducible refine Below.alloc ?_ ?_ _; rotate_left; · first | exact Nat.le_refl _ | omega | (simp; done) | (simp; omega)) | with_reducible refine below_drewN ?_ _ | with_reducible refine Below.drew ?_))), ok.1⟩ (Ints.mono hn (by (repeat (first | with_reducible exact Below.refl _ _ | with_reducible exact hbw | (with_reducible refine Below.setCell ?_ ?_ _; rotate_left; · first | exact Nat.le_refl _ | omega | (simp; done) | (simp; omega)) | (with_reducible refine Below.alloc ?_ ?_ _; rotate_left; · first | exact Nat.le_refl _ | omega | (simp; done) | (simp; omega)) | with_reducible refine below_drewN ?_ _ | with_reducible refine Below.drew ?_))))).mono ?_
      rintro e w1 ⟨rfl, hb⟩
      have hbw : Below w.heap.size w w1 := Below.trans (by (repeat (first | with_reducible exact Below.refl _ _ | with_reducible exact hbw | (with_reducible refine Below.setCell ?_ ?_ _; rotate_left; · first | exact Nat.le_refl _ | omega | (simp; done) | (simp; omega)) | (with_reducible refine Below.alloc ?_ ?_ _; rotate_left; · first | exact Nat.le_refl _ | omega | (simp; done) | (simp; omega)) | with_reducible refine below_drewN ?_ _ | with_reducible refine Below.drew ?_))) (hb.mono (by simp <;> omega))
      have y0 : w1.cell? ⟨w.heap.size, 0, none⟩ = some (.string x.name) := cellB hb (by simp [go_sem])
      have y1 : w1.cell? ⟨w.heap.size, 1, none⟩ = some lv := cellB hb (by simp [go_sem])
      clear hb
      go_wp2_with fail
      refine (l26Extra_any _ lv _ x ns b _ ⟨y0, y1, hlv.mono hbw, ok.1⟩ (Ints.mono hn hbw) AV.out.1 AV.out.2.2).mono ?_
      rw [F.out]
      rintro e w2 ⟨v3, rfl, ho3, h2⟩
      have hb2 := hbw.trans (h2.mono hbw.size)
      rw [← E.out] at ho3
      go_wp2
      go_ret2
      exact ⟨_, by rw [EC.out, if_neg NF.out]; rfl, by rw [E.out, EN.out]; exact OwnInts.nil _ _ _, hb2⟩
  · have E := Lib.hid (show enV x ns b = [] by unfold enV; rw [if_neg ga])
    have EC := Lib.hid (show enC x ns b = askC x ns b by unfold enC; rw [if_neg ga])
    have d0 : (askC x ns b != 0) = true := by simpa using ga
    clear ga
    go_enter Try.func33, Try.ntmps33
    go_wp2_with fail
    refine (l26Ask_any _ lv _ x ns b _ ⟨by simp [go_sem], by simp [go_sem], hlv.mono (by (repeat (first | with_reducible exact Below.refl _ _ | with_reducible exact hbw | (with_reducible refine Below.setCell ?_ ?_ _; rotate_left; · first | exact Nat.le_refl _ | omega | (simp; done) | (simp; omega)) | (with_reducible refine Below.alloc ?_ ?_ _; rotate_left; · first | exact Nat.le_refl _ | omega | (simp; done) | (simp; omega)) | with_reducible refine below_drewN ?_ _ | with_reducible refine Below.drew ?_))), ok.1⟩ (Ints.mono hn (by (repeat (first | with_reducible exact Below.refl _ _ | with_reducible exact hbw | (with_reducible refine Below.setCell ?_ ?_ _; rotate_left; · first | exact Nat.le_refl _ | omega | (simp; done) | (simp; omega)) | (with_reducible refine Below.alloc ?_ ?_ _; rotate_left; · first | exact Nat.le_refl _ | omega | (simp; done) | (simp; omega)) | with_reducible refine below_drewN ?_ _ | with_reducible refine Below.drew ?_))))).mono ?_
    rintro e w1 ⟨rfl, hb⟩
    have hbw : Below w.heap.size w w1 := Below.trans (by (repeat (first | with_reducible exact Below.refl _ _ | with_reducible exact hbw | (with_reducible refine Below.setCell ?_ ?_ _; rotate_left; · first | exact Nat.le_refl _ | omega | (simp; done) | (simp; omega)) | (with_reducible refine Below.alloc ?_ ?_ _; rotate_left; · first | exact Nat.le_refl _ | omega | (simp; done) | (simp; omega)) | with_reducible refine below_drewN ?_ _ | with_reducible refine Below.drew ?_))) (hb.mono (by simp <;> omega))
    clear hb
    go_wp2
    go_ret2
    exact ⟨_, by rw [EC.out]; rfl, by rw [E.out]; exact OwnInts.nil _ _ _, hbw⟩

set_option maxHeartbeats 1000000 in
theorem implExtraNotes_any (v : Value) (x : TunD) (v2 : Value) (ns : List Int) (b : Int) (w : World) (h : RdTun w v x) (ok : x.ok) (_ : x.tones.length ≤ 1048576) (hn : RdInts w v2 ns) (_ : ∀ x ∈ ns, I64 x) (_ : ns.length ≤ 1048576) (_ : I64 b) :
    Calls Try.prog 34 #[v, v2, .int .i64 b] w fun e w' => ∃ v', e = .returned (.tuple #[v', .int .i64 (enC x ns b)]) ∧ OwnInts w.heap.size w'.heap.size w' v' (enV x ns b) ∧ Below w.heap.size w w' := by
  obtain ⟨lv, rfl, hlv⟩ := h
  have hn : Ints w v2 ns := hn
  obtain ⟨a1, cs1, rfl, _, _, _⟩ := id hn
  by_cases ga : askC x ns b = 0
  · have AV := Lib.hid (ask_zero.1 ga)
    have E := Lib.hid (show enV x ns b = exV ns b (sel allT x.tones) by unfold enV; rw [if_pos ga])
    have EC := Lib.hid (show enC x ns b = if exB b (sel allT x.tones) = true then 0 else 6 by unfold enC; rw [if_pos ga])
    have d0 : (askC x ns b != 0) = false := by simpa using ga
    have A0 := Lib.hid ga; clear ga
    by_cases f : exB b (sel allT x.tones) = true
    · have F := Lib.hid f; clear f
      go_enter Try.func34, Try.ntmps34
      go_wp2_with fail
      refine (arranged_any _ lv _ x ns b _ ⟨rfl, hlv.mono (by (repeat (first | with_reducible exact Below.refl _ _ | with_reducible exact hbw | (with_reducible refine Below.setCell ?_ ?_ _; rotate_left; · first | exact Nat.le_refl _ | omega | (simp; done) | (simp; omega)) | (with_reducible refine Below.alloc ?_ ?_ _; rotate_left; · first | exact Nat.le_refl _ | omega | (simp; done) | (simp; omega)) | with_reducible refine below_drewN ?_ _ | with_reducible refine Below.drew ?_)))⟩ ok.1 (Ints.mono hn (by (repeat (first | with_reducible exact Below.refl _ _ | with_reducible exact hbw | (with_reducible refine Below.setCell ?_ ?_ _; rotate_left; · first | exact Nat.le_refl _ | omega | (simp; done) | (simp; omega)) | (with_reducible refine Below.alloc ?_ ?_ _; rotate_left; · first | exact Nat.le_refl _ | omega | (simp; done) | (simp; omega)) | with_reducible refine below_drewN ?_ _ | with_reducible refine Below.drew ?_))))).mono ?_
      rintro e w1 ⟨rfl, hb⟩
      have hbw : Below w.heap.size w w1 := Below.trans (by (repeat (first | with_reducible exact Below.refl _ _ | with_reducible exact hbw | (with_reducible refine Below.setCell ?_ ?_ _; rotate_left; · first | exact Nat.le_refl _ | omega | (simp; done) | (simp; omega)) | (with_reducible refine Below.alloc ?_ ?_ _; rotate_left; · first | exact Nat.le_refl _ | omega | (simp; done) | (simp; omega)) | with_reducible refine below_drewN ?_ _ | with_reducible refine Below.drew ?_))) (hb.mono (by simp <;> omega))
      have y0 : w1.cell? ⟨w.heap.size, 0, none⟩ = some (.string x.name) := cellB hb (by simp [go_sem])
      have y1 : w1.cell? ⟨w.heap.size, 1, none⟩ = some lv := cellB hb (by simp [go_sem])
      clear hb
      go_wp2_with fail
      refine (extraNotes_any _ lv _ x ns b _ ⟨rfl, hlv.mono hbw⟩ (Ints.mono hn hbw) AV.out.1 AV.out.2.1 AV.out.2.2).mono ?_
      rw [F.out]
      rintro e w2 ⟨v3, rfl, ho3, h2⟩
      have hb2 := hbw.trans (h2.mono hbw.size)
      rw [← E.out] at ho3
      go_wp2
      go_ret2
      exact ⟨_, by rw [EC.out, if_pos F.out]; rfl, ⟨owns_base ho3.1 hbw.size, ho3.2⟩, hb2⟩
    · have f' : exB b (sel allT x.tones) = false := by simpa using f
      have NF := Lib.hid f
      have EN := Lib.hid (show exV ns b (sel allT x.tones) = [] from exV_no fun h => f (exB_yes h))
      have F := Lib.hid f'; clear f f'
      go_enter Try.func34, Try.ntmps34
      go_wp2_with fail
      refine (arranged_any _ lv _ x ns b _ ⟨rfl, hlv.mono (by (repeat (first | with_reducible exact Below.refl _ _ | with_reducible exact hbw | (with_reducible refine Below.setCell ?_ ?_ _; rotate_left; · first | exact Nat.le_refl _ | omega | (simp; done) | (simp; omega)) | (with_reducible refine Below.alloc ?_ ?_ _; rotate_left; · first | exact Nat.le_refl _ | omega | (simp; done) | (simp; omega)) | with_reducible refine below_drewN ?_ _ | with_reducible refine Below.drew ?_)))⟩ ok.1 (Ints.mono hn (by (repeat (first | with_reducible exact Below.refl _ _ | with_reducible exact hbw | (with_reducible refine Below.setCell ?_ ?_ _; rotate_left; · first | exact Nat.le_refl _ | omega | (simp; done) | (simp; omega)) | (with_reducible refine Below.alloc ?_ ?_ _; rotate_left; · first | exact Nat.le_refl _ | omega | (simp; done) | (simp; omega)) | with_reducible refine below_drewN ?_ _ | with_reducible refine Below.drew ?_))))).mono ?_
      rintro e w1 ⟨rfl, hb⟩
      have hbw : Below w.heap.size w w1 := Below.trans (by (repeat (first | with_reducible exact Below.refl _ _ | with_reducible exact hbw | (with_reducible refine Below.setCell ?_ ?_ _; rotate_left; · first | exact Nat.le_refl _ | omega | (simp; done) | (simp; omega)) | (with_reducible refine Below.alloc ?_ ?_ _; rotate_left; · first | exact Nat.le_refl _ | omega | (simp; done) | (simp; omega)) | with_reducible refine below_drewN ?_ _ | with_reducible refine Below.drew ?_))) (hb.mono (by simp <;> omega))
      have y0 : w1.cell? ⟨w.heap.size, 0, none⟩ = some (.string x.name) := cellB hb (by simp [go_sem])
      have y1 : w1.cell? ⟨w.heap.size, 1, none⟩ = some lv := cellB hb (by simp [go_sem])
      clear hb
      go_wp2_with fail
      refine (extraNotes_any _ lv _ x ns b _ ⟨rfl, hlv.mono hbw⟩ (Ints.mono hn hbw) AV.out.1 AV.out.2.1 AV.out.2.2).mono ?_
      rw [F.out]
      rintro e w2 ⟨v3, rfl, ho3, h2⟩
      have hb2 := hbw.trans (h2.mono hbw.size)
      rw [← E.out] at ho3
      go_wp2
      go_ret2
      exact ⟨_, by rw [EC.out, if_neg NF.out]; rfl, by rw [E.out, EN.out]; exact OwnInts.nil _ _ _, hb2⟩
  · have E := Lib.hid (show enV x ns b = [] by unfold enV; rw [if_neg ga])
    have EC := Lib.hid (show enC x ns b = askC x ns b by unfold enC; rw [if_neg ga])
    have d0 : (askC x ns b != 0) = true := by simpa using ga
    clear ga
    go_enter Try.func34, Try.ntmps34
    go_wp2_with fail
    refine (arranged_any _ lv _ x ns b _ ⟨rfl, hlv.mono (by (repeat (first | with_reducible exact Below.refl _ _ | with_reducible exact hbw | (with_reducible refine Below.setCell ?_ ?_ _; rotate_left; · first | exact Nat.le_refl _ | omega | (simp; done) | (simp; omega)) | (with_reducible refine Below.alloc ?_ ?_ _; rotate_left; · first | exact Nat.le_refl _ | omega | (simp; done) | (simp; omega)) | with_reducible refine below_drewN ?_ _ | with_reducible refine Below.drew ?_)))⟩ ok.1 (Ints.mono hn (by (repeat (first | with_reducible exact Below.refl _ _ | with_reducible exact hbw | (with_reducible refine Below.setCell ?_ ?_ _; rotate_left; · first | exact Nat.le_refl _ | omega | (simp; done) | (simp; omega)) | (with_reducible refine Below.alloc ?_ ?_ _; rotate_left; · first | exact Nat.le_refl _ | omega | (simp; done) | (simp; omega)) | with_reducible refine below_drewN ?_ _ | with_reducible refine Below.drew ?_))))).mono ?_
    rintro e w1 ⟨rfl, hb⟩
    have hbw : Below w.heap.size w w1 := Below.trans (by (repeat (first | with_reducible exact Below.refl _ _ | with_reducible exact hbw | (with_reducible refine Below.setCell ?_ ?_ _; rotate_left; · first | exact Nat.le_refl _ | omega | (simp; done) | (simp; omega)) | (with_reducible refine Below.alloc ?_ ?_ _; rotate_left; · first | exact Nat.le_refl _ | omega | (simp; done) | (simp; omega)) | with_reducible refine below_drewN ?_ _ | with_reducible refine Below.drew ?_))) (hb.mono (by simp <;> omega))
    clear hb
    go_wp2
    go_ret2
    exact ⟨_, by rw [EC.out]; rfl, by rw [E.out]; exact OwnInts.nil _ _ _, hbw⟩

end Go.Proofs.Ytgelilelmmocgaa
