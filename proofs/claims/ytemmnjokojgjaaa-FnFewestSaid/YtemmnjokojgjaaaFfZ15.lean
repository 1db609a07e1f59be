import Derived.Test.YtemmnjokojgjaaaFfZ14
import Derived.Test.YtemmnjokojgjaaaFfZ9
import Derived.Test.YtemmnjokojgjaaaFfZ13
/- Contracts of extraNotes and l26Extra. -/
set_option linter.unusedSimpArgs false
set_option linter.unnecessarySimpa false
set_option linter.unusedVariables false
set_option maxRecDepth 100000
namespace Go.Proofs.Ytemmnjokojgjaaa
open Go.RowKit

theorem note_sel (x : TunD) {k : Nat} (h : k < x.tones.length) : ∃ h' : k < (sel allT x.tones).length, (sel allT x.tones)[k] = x.tones[k].note := by
  have e : sel allT x.tones = x.tones.map Ton.note := by
    unfold sel allT; rw [List.filter_eq_self.2 (by simp)]
  refine ⟨by rw [e]; simpa using h, ?_⟩
  simp [e]
theorem sel_bd {x : TunD} (ok : validTunB x = true) : ∀ z ∈ sel allT x.tones, 0 ≤ z ∧ z ≤ 127 := by
  intro z hz
  unfold sel at hz
  obtain ⟨t, ht, rfl⟩ := List.mem_map.1 hz
  obtain ⟨j, hj, rfl⟩ := List.getElem_of_mem (List.mem_filter.1 ht).1
  exact (tun_tone ok hj).noteIn

set_option maxHeartbeats 2000000 in
theorem extraNotes_any (vt lv v : Value) (x : TunD) (ns : List Int) (b : Int) (w : World) (h : Tun w vt lv x) (hn : Ints w v ns) (ok : validTunB x = true) (hv : validSet ns = true) (hs : shiftIn b) :
    Calls Try.prog 64 #[vt, v, .int .i64 b] w fun e w' => ∃ v', e = .returned (.tuple #[v', .bool (exB b (sel allT x.tones))]) ∧ OwnInts w.heap.size w'.heap.size w' v' (exV ns b (sel allT x.tones)) ∧ Below w.heap.size w w' := by
  have hl := tun_len ok
  have BD := Lib.hid (show ∀ z ∈ notesOfL (sel allT x.tones), 0 ≤ z ∧ z ≤ 127 from fun z hz => sel_bd ok z ((notesOfL_mem _ _).1 hz))
  have VS := Lib.hid (fun (z : Int) (hz : z ∈ ns) => validSet_in hv hz)
  clear hv
  have OK := Lib.hid ok; clear ok
  obtain ⟨a1, cs1, rfl, _, _, _⟩ := id hn
  obtain ⟨s1, s2⟩ := hs
  have hzl : (notesOfL (sel allT x.tones)).length ≤ 128 := by
    have h1 := notesOfL_len (sel allT x.tones); have h2 := sel_len allT x.tones x.tones.length; rw [sel_all _ _ (Nat.le_refl _)] at h2; omega
  obtain ⟨zs, hz⟩ : ∃ zs, zs = notesOfL (sel allT x.tones) := ⟨_, rfl⟩
  rw [← hz] at BD hzl
  have ZE := Lib.hid hz; clear hz
  obtain ⟨R1, hR1⟩ : ∃ r, r = exB b (sel allT x.tones) := ⟨_, rfl⟩
  obtain ⟨R2, hR2⟩ : ∃ r, r = exV ns b (sel allT x.tones) := ⟨_, rfl⟩
  rw [← hR1, ← hR2]
  have YES := Lib.hid (show okZs b zs → R1 = true ∧ R2 = exL ns b zs from fun h => by
    rw [hR1, hR2, ZE.out]
    have h' : okZs b (sel allT x.tones) := (okZs_notes _ _).1 (by rw [← ZE.out]; exact h)
    exact ⟨exB_yes h', by rw [exV_yes h', exL_notes]⟩)
  have NO := Lib.hid (show ¬ okZs b zs → R1 = false ∧ R2 = [] from fun h => by
    rw [hR1, hR2]
    have h' : ¬ okZs b (sel allT x.tones) := fun h' => h (by rw [ZE.out]; exact (okZs_notes _ _).2 h')
    exact ⟨exB_no h', exV_no h'⟩)
  clear hR1 hR2
  obtain ⟨rfl, hlv⟩ := id h
  go_enter Try.func64, Try.ntmps64
  go_wp2_with fail
  refine (notesAll_any _ lv x _ ⟨rfl, hlv.mono (by (repeat (first | with_reducible exact Below.refl _ _ | with_reducible exact hbw | (with_reducible refine Below.setCell ?_ ?_ _; rotate_left; · first | exact Nat.le_refl _ | omega | (simp; done) | (simp; omega)) | (with_reducible refine Below.alloc ?_ ?_ _; rotate_left; · first | exact Nat.le_refl _ | omega | (simp; done) | (simp; omega)) | with_reducible refine below_drewN ?_ _ | with_reducible refine Below.drew ?_)))⟩ (by omega)).mono ?_
  rintro e w1 ⟨v1, rfl, ho1, hb1⟩
  rw [← ZE.out] at ho1
  have hw1 : Below w.heap.size w w1 := Below.trans (by (repeat (first | with_reducible exact Below.refl _ _ | with_reducible exact hbw | (with_reducible refine Below.setCell ?_ ?_ _; rotate_left; · first | exact Nat.le_refl _ | omega | (simp; done) | (simp; omega)) | (with_reducible refine Below.alloc ?_ ?_ _; rotate_left; · first | exact Nat.le_refl _ | omega | (simp; done) | (simp; omega)) | with_reducible refine below_drewN ?_ _ | with_reducible refine Below.drew ?_))) (hb1.mono (by simp <;> omega))
  have ho1' : Ints w1 v1 zs := Sl.of_owns ho1.1
  clear ho1 hb1
  obtain ⟨b1, cb1, rfl, hcb, hcm, _⟩ := id ho1'
  have hsz1 := hw1.size
  go_wp2_with fail
  go_loopw [8, 14, 10] (fun o i _ wr => ∃ (k : Nat) (a' : Option Addr) (c' : Nat), k ≤ zs.length ∧ i = .int .i64 (k : Int) ∧ o = .slice a' (exL ns b (zs.take k)).length c' ∧ wr.ownsRow w1.heap.size 2 1 (.slice a' (exL ns b (zs.take k)).length c') (exL ns b (zs.take k)).length ((exL ns b (zs.take k)).map (Value.int .i64)) ∧ okZs b (zs.take k) ∧ Below w1.heap.size w1 wr) (fun _ i _ _ => zs.length - (intOf i).toNat)
  case atStart => exact ⟨0, none, 0, Nat.zero_le _, by go_num, rfl, owns_nil _ _ _ _, okZs_zero _ _, Below.refl _ _⟩
  case round =>
    obtain ⟨k, a2, c2, hk, rfl, rfl, ho, hok, hb⟩ := hrel
    have hz := hb.size
    have HK := Lib.hid hok; clear hok
    by_cases hlt : k < zs.length
    · obtain ⟨p, o, rfl, c1⟩ := (ho1'.mono hb).cells (by simp; omega)
      have hp : wr.cell? ⟨p, o + k, none⟩ = some (.int .i64 zs[k]) := c1 k _ (by simp [hlt])
      clear c1
      have lp := World.block_lt_of_cell? _ _ hp
      simp only at lp
      have lp1 : p < wr.heap.size + 1 := by omega
      obtain ⟨n1, n2⟩ := BD.out _ (List.getElem_mem hlt)
      have w1' : IntKind.i64.wrap (zs[k] + b) = zs[k] + b := IntWalk.i64_in _ (by omega)
      have hn1 := hn.mono (hw1.trans (hb.mono hsz1))
      by_cases g : zs[k] + b ∈ ns
      · have M := Lib.hid (exL_in hlt g)
        have OZ := Lib.hid (show okZ b zs[k] from VS.out _ g)
        have G := Lib.hid (show true = decide (zs[k] + b ∈ ns) by simpa using g); clear g
        go_wp2_with fail
        refine (containsI_any true _ ns _ _ (Ints.mono hn1 (by (repeat (first | with_reducible exact Below.refl _ _ | with_reducible exact hbw | (with_reducible refine Below.setCell ?_ ?_ _; rotate_left; · first | exact Nat.le_refl _ | omega | (simp; done) | (simp; omega)) | (with_reducible refine Below.alloc ?_ ?_ _; rotate_left; · first | exact Nat.le_refl _ | omega | (simp; done) | (simp; omega)) | with_reducible refine below_drewN ?_ _ | with_reducible refine Below.drew ?_)))) G.out).mono ?_
        rintro e w2 ⟨rfl, hq1⟩
        have hst : Below wr.heap.size wr w2 := Below.trans (by (repeat (first | with_reducible exact Below.refl _ _ | with_reducible exact hbw | (with_reducible refine Below.setCell ?_ ?_ _; rotate_left; · first | exact Nat.le_refl _ | omega | (simp; done) | (simp; omega)) | (with_reducible refine Below.alloc ?_ ?_ _; rotate_left; · first | exact Nat.le_refl _ | omega | (simp; done) | (simp; omega)) | with_reducible refine below_drewN ?_ _ | with_reducible refine Below.drew ?_))) (hq1.below _)
        go_wp2
        go_roundw
        case rel => exact ⟨k + 1, a2, c2, by omega, by go_num, by rw [M.out], by rw [M.out]; exact owns_mono ho hst, okZs_step hlt HK.out OZ.out, hb.trans (hst.mono hz)⟩
        case measure => simp [intOf] <;> omega
      · by_cases g2 : okZ b zs[k]
        · have M := Lib.hid (exL_out hlt g)
          have OZ := Lib.hid g2
          have G := Lib.hid (show false = decide (zs[k] + b ∈ ns) by simpa using g); clear g
          have G2 := Lib.hid (show true = decide (0 ≤ zs[k] + b ∧ zs[k] + b ≤ 127) by unfold okZ at g2; simpa using g2); clear g2
          have hxl := exL_len ns b (zs.take k)
          rw [List.length_take] at hxl
          go_wp2_with fail
          refine (containsI_any false _ ns _ _ (Ints.mono hn1 (by (repeat (first | with_reducible exact Below.refl _ _ | with_reducible exact hbw | (with_reducible refine Below.setCell ?_ ?_ _; rotate_left; · first | exact Nat.le_refl _ | omega | (simp; done) | (simp; omega)) | (with_reducible refine Below.alloc ?_ ?_ _; rotate_left; · first | exact Nat.le_refl _ | omega | (simp; done) | (simp; omega)) | with_reducible refine below_drewN ?_ _ | with_reducible refine Below.drew ?_)))) G.out).mono ?_
          rintro e w2 ⟨rfl, hq1⟩
          have hst : Below wr.heap.size wr w2 := Below.trans (by (repeat (first | with_reducible exact Below.refl _ _ | with_reducible exact hbw | (with_reducible refine Below.setCell ?_ ?_ _; rotate_left; · first | exact Nat.le_refl _ | omega | (simp; done) | (simp; omega)) | (with_reducible refine Below.alloc ?_ ?_ _; rotate_left; · first | exact Nat.le_refl _ | omega | (simp; done) | (simp; omega)) | with_reducible refine below_drewN ?_ _ | with_reducible refine Below.drew ?_))) (hq1.below _)
          clear hq1
          have ho2 := owns_mono ho hst
          have hb2 := hb.trans (hst.mono hz)
          have hsz2 := hb2.size
          go_wp2_with fail
          refine (isNoteS_any true _ _ G2.out).mono ?_
          rintro e w3 ⟨rfl, rfl⟩
          go_wp2_with (at_builtin; refine append_one rfl _ _ 25 rfl w1.heap.size 2 (.int .i64 0) 1 8 Try.underlying25 info_int64 rfl (by decide) _ (exL ns b (zs.take k)).length _ rfl ho2 [.int .i64 (zs[k] + b)] rfl (by simp [Value.oneCell']) rfl (by omega) (by decide) hsz2 ?_)
          intro a' cap' w3 ho3 _ hb3
          go_wp2
          go_roundw
          case rel => exact ⟨k + 1, a', cap', by omega, by go_num, by rw [M.out]; simp, by rw [M.out]; simpa using ho3, okZs_step hlt HK.out OZ.out, hb2.trans hb3⟩
          case measure => simp [intOf] <;> omega
        · have A := Lib.hid (NO.out (okZs_not hlt g2))
          have G := Lib.hid (show false = decide (zs[k] + b ∈ ns) by simpa using g); clear g
          have G2 := Lib.hid (show false = decide (0 ≤ zs[k] + b ∧ zs[k] + b ≤ 127) by unfold okZ at g2; simp; omega); clear g2
          go_wp2_with fail
          refine (containsI_any false _ ns _ _ (Ints.mono hn1 (by (repeat (first | with_reducible exact Below.refl _ _ | with_reducible exact hbw | (with_reducible refine Below.setCell ?_ ?_ _; rotate_left; · first | exact Nat.le_refl _ | omega | (simp; done) | (simp; omega)) | (with_reducible refine Below.alloc ?_ ?_ _; rotate_left; · first | exact Nat.le_refl _ | omega | (simp; done) | (simp; omega)) | with_reducible refine below_drewN ?_ _ | with_reducible refine Below.drew ?_)))) G.out).mono ?_
          rintro e w2 ⟨rfl, hq1⟩
          have hst : Below wr.heap.size wr w2 := Below.trans (by (repeat (first | with_reducible exact Below.refl _ _ | with_reducible exact hbw | (with_reducible refine Below.setCell ?_ ?_ _; rotate_left; · first | exact Nat.le_refl _ | omega | (simp; done) | (simp; omega)) | (with_reducible refine Below.alloc ?_ ?_ _; rotate_left; · first | exact Nat.le_refl _ | omega | (simp; done) | (simp; omega)) | with_reducible refine below_drewN ?_ _ | with_reducible refine Below.drew ?_))) (hq1.below _)
          clear hq1
          go_wp2_with fail
          refine (isNoteS_any false _ _ G2.out).mono ?_
          rintro e w3 ⟨rfl, rfl⟩
          go_wp2
          go_ret2
          exact ⟨_, by rw [A.out.1]; rfl, by rw [A.out.2]; exact OwnInts.nil _ _ _, hw1.trans ((hb.trans (hst.mono hz)).mono hsz1)⟩
    · have A := Lib.hid (YES.out (okZs_all (by omega) HK.out))
      have E := Lib.hid (show exL ns b (zs.take k) = exL ns b zs by rw [List.take_of_length_le (by omega)])
      rw [E.out] at ho
      rw [E.out]
      go_wp2
      go_ret2
      exact ⟨_, by rw [A.out.1]; rfl, by rw [A.out.2]; exact OwnRow.mk' (owns_base ho hsz1), hw1.trans (hb.mono hsz1)⟩

theorem sel_eq (x : TunD) : sel allT x.tones = x.tones.map Ton.note := by unfold sel allT; rw [List.filter_eq_self.2 (by simp)]

noncomputable def enV (x : TunD) (ns : List Int) (b : Int) : List Int := if askC x ns b = 0 then exV ns b (sel allT x.tones) else []
noncomputable def enC (x : TunD) (ns : List Int) (b : Int) : Int := if askC x ns b = 0 then (if exB b (sel allT x.tones) = true then 0 else 6) else askC x ns b
theorem en_len (x : TunD) (ns : List Int) (b : Int) (h : x.tones.length ≤ 1048576) : (enV x ns b).length ≤ 1048576 := by
  unfold enV; split
  · have := exV_len ns b (sel allT x.tones); rw [sel_eq] at *; simp at *; omega
  · simp

set_option maxHeartbeats 1000000 in
theorem implExtraNotes_any (v : Value) (x : TunD) (v2 : Value) (ns : List Int) (b : Int) (w : World) (h : RdTun w v x) (ok : x.ok) (_ : x.tones.length ≤ 1048576) (hn : RdInts w v2 ns) (_ : ∀ x ∈ ns, I64 x) (_ : ns.length ≤ 1048576) (_ : I64 b) :
    Calls Try.prog 32 #[v, v2, .int .i64 b] w fun e w' => ∃ v', e = .returned (.tuple #[v', .int .i64 (enC x ns b)]) ∧ OwnInts w.heap.size w'.heap.size w' v' (enV x ns b) ∧ Below w.heap.size w w' := by
  obtain ⟨lv, rfl, hlv⟩ := h
  have hn : Ints w v2 ns := hn
  obtain ⟨a1, cs1, rfl, _, _, _⟩ := id hn
  by_cases ga : askC x ns b = 0
  · have AV := Lib.hid (ask_zero.1 ga)
    have E := Lib.hid (show enV x ns b = exV ns b (sel allT x.tones) by unfold enV; rw [if_pos ga])
    have EC := Lib.hid (show enC x ns b = if exB b (sel allT x.tones) = true then 0 else 6 by unfold enC; rw [if_pos ga])
    have d0 : (askC x ns b != 0) = false := by simpa using ga
    have A0 := Lib.hid ga; clear ga
    by_cases f : exB b (sel allT x.tones) = true
    · have F := Lib.hid f; clear f
      go_enter Try.func32, Try.ntmps32
      go_wp2_with fail
      refine (arranged_any _ lv _ x ns b _ ⟨rfl, hlv.mono (by (repeat (first | with_reducible exact Below.refl _ _ | with_reducible exact hbw | (with_reducible refine Below.setCell ?_ ?_ _; rotate_left; · first | exact Nat.le_refl _ | omega | (simp; done) | (simp; omega)) | (with_reducible refine Below.alloc ?_ ?_ _; rotate_left; · first | exact Nat.le_refl _ | omega | (simp; done) | (simp; omega)) | with_reducible refine below_drewN ?_ _ | with_reducible refine Below.drew ?_)))⟩ ok.1 (Ints.mono hn (by (repeat (first | with_reducible exact Below.refl _ _ | with_reducible exact hbw | (with_reducible refine Below.setCell ?_ ?_ _; rotate_left; · first | exact Nat.le_refl _ | omega | (simp; done) | (simp; omega)) | (with_reducible refine Below.alloc ?_ ?_ _; rotate_left; · first | exact Nat.le_refl _ | omega | (simp; done) | (simp; omega)) | with_reducible refine below_drewN ?_ _ | with_reducible refine Below.drew ?_))))).mono ?_
      rintro e w1 ⟨rfl, hb⟩
      have hbw : Below w.heap.size w w1 := Below.trans (by (repeat (first | with_reducible exact Below.refl _ _ | with_reducible exact hbw | (with_reducible refine Below.setCell ?_ ?_ _; rotate_left; · first | exact Nat.le_refl _ | omega | (simp; done) | (simp; omega)) | (with_reducible refine Below.alloc ?_ ?_ _; rotate_left; · first | exact Nat.le_refl _ | omega | (simp; done) | (simp; omega)) | with_reducible refine below_drewN ?_ _ | with_reducible refine Below.drew ?_))) (hb.mono (by simp <;> omega))
      have y0 : w1.cell? ⟨w.heap.size, 0, none⟩ = some (.string x.name) := cellB hb (by simp [go_sem])
      have y1 : w1.cell? ⟨w.heap.size, 1, none⟩ = some lv := cellB hb (by simp [go_sem])
      clear hb
      go_wp2_with fail
      refine (extraNotes_any _ lv _ x ns b _ ⟨rfl, hlv.mono hbw⟩ (Ints.mono hn hbw) AV.out.1 AV.out.2.1 AV.out.2.2).mono ?_
      rw [F.out]
      rintro e w2 ⟨v3, rfl, ho3, h2⟩
      have hb2 := hbw.trans (h2.mono hbw.size)
      rw [← E.out] at ho3
      go_wp2
      go_ret2
      exact ⟨_, by rw [EC.out, if_pos F.out]; rfl, ⟨owns_base ho3.1 hbw.size, ho3.2⟩, hb2⟩
    · have f' : exB b (sel allT x.tones) = false := by simpa using f
      have NF := Lib.hid f
      have EN := Lib.hid (show exV ns b (sel allT x.tones) = [] from exV_no fun h => f (exB_yes h))
      have F := Lib.hid f'; clear f f'
      go_enter Try.func32, Try.ntmps32
      go_wp2_with fail
      refine (arranged_any _ lv _ x ns b _ ⟨rfl, hlv.mono (by (repeat (first | with_reducible exact Below.refl _ _ | with_reducible exact hbw | (with_reducible refine Below.setCell ?_ ?_ _; rotate_left; · first | exact Nat.le_refl _ | omega | (simp; done) | (simp; omega)) | (with_reducible refine Below.alloc ?_ ?_ _; rotate_left; · first | exact Nat.le_refl _ | omega | (simp; done) | (simp; omega)) | with_reducible refine below_drewN ?_ _ | with_reducible refine Below.drew ?_)))⟩ ok.1 (Ints.mono hn (by (repeat (first | with_reducible exact Below.refl _ _ | with_reducible exact hbw | (with_reducible refine Below.setCell ?_ ?_ _; rotate_left; · first | exact Nat.le_refl _ | omega | (simp; done) | (simp; omega)) | (with_reducible refine Below.alloc ?_ ?_ _; rotate_left; · first | exact Nat.le_refl _ | omega | (simp; done) | (simp; omega)) | with_reducible refine below_drewN ?_ _ | with_reducible refine Below.drew ?_))))).mono ?_
      rintro e w1 ⟨rfl, hb⟩
      have hbw : Below w.heap.size w w1 := Below.trans (by (repeat (first | with_reducible exact Below.refl _ _ | with_reducible exact hbw | (with_reducible refine Below.setCell ?_ ?_ _; rotate_left; · first | exact Nat.le_refl _ | omega | (simp; done) | (simp; omega)) | (with_reducible refine Below.alloc ?_ ?_ _; rotate_left; · first | exact Nat.le_refl _ | omega | (simp; done) | (simp; omega)) | with_reducible refine below_drewN ?_ _ | with_reducible refine Below.drew ?_))) (hb.mono (by simp <;> omega))
      have y0 : w1.cell? ⟨w.heap.size, 0, none⟩ = some (.string x.name) := cellB hb (by simp [go_sem])
      have y1 : w1.cell? ⟨w.heap.size, 1, none⟩ = some lv := cellB hb (by simp [go_sem])
      clear hb
      go_wp2_with fail
      refine (extraNotes_any _ lv _ x ns b _ ⟨rfl, hlv.mono hbw⟩ (Ints.mono hn hbw) AV.out.1 AV.out.2.1 AV.out.2.2).mono ?_
      rw [F.out]
      rintro e w2 ⟨v3, rfl, ho3, h2⟩
      have hb2 := hbw.trans (h2.mono hbw.size)
      rw [← E.out] at ho3
      go_wp2
      go_ret2
      exact ⟨_, by rw [EC.out, if_neg NF.out]; rfl, by rw [E.out, EN.out]; exact OwnInts.nil _ _ _, hb2⟩
  · have E := Lib.hid (show enV x ns b = [] by unfold enV; rw [if_neg ga])
    have EC := Lib.hid (show enC x ns b = askC x ns b by unfold enC; rw [if_neg ga])
    have d0 : (askC x ns b != 0) = true := by simpa using ga
    clear ga
    go_enter Try.func32, Try.ntmps32
    go_wp2_with fail
    refine (arranged_any _ lv _ x ns b _ ⟨rfl, hlv.mono (by (repeat (first | with_reducible exact Below.refl _ _ | with_reducible exact hbw | (with_reducible refine Below.setCell ?_ ?_ _; rotate_left; · first | exact Nat.le_refl _ | omega | (simp; done) | (simp; omega)) | (with_reducible refine Below.alloc ?_ ?_ _; rotate_left; · first | exact Nat.le_refl _ | omega | (simp; done) | (simp; omega)) | with_reducible refine below_drewN ?_ _ | with_reducible refine Below.drew ?_)))⟩ ok.1 (Ints.mono hn (by (repeat (first | with_reducible exact Below.refl _ _ | with_reducible exact hbw | (with_reducible refine Below.setCell ?_ ?_ _; rotate_left; · first | exact Nat.le_refl _ | omega | (simp; done) | (simp; omega)) | (with_reducible refine Below.alloc ?_ ?_ _; rotate_left; · first | exact Nat.le_refl _ | omega | (simp; done) | (simp; omega)) | with_reducible refine below_drewN ?_ _ | with_reducible refine Below.drew ?_))))).mono ?_
    rintro e w1 ⟨rfl, hb⟩
    have hbw : Below w.heap.size w w1 := Below.trans (by (repeat (first | with_reducible exact Below.refl _ _ | with_reducible exact hbw | (with_reducible refine Below.setCell ?_ ?_ _; rotate_left; · first | exact Nat.le_refl _ | omega | (simp; done) | (simp; omega)) | (with_reducible refine Below.alloc ?_ ?_ _; rotate_left; · first | exact Nat.le_refl _ | omega | (simp; done) | (simp; omega)) | with_reducible refine below_drewN ?_ _ | with_reducible refine Below.drew ?_))) (hb.mono (by simp <;> omega))
    clear hb
    go_wp2
    go_ret2
    exact ⟨_, by rw [EC.out]; rfl, by rw [E.out]; exact OwnInts.nil _ _ _, hbw⟩

end Go.Proofs.Ytemmnjokojgjaaa
/- The shift of the fewest extra notes: plain. -/
set_option linter.unusedSimpArgs false
set_option linter.unnecessarySimpa false
set_option linter.unusedVariables false
namespace Go.Proofs.Ytemmnjokojgjaaa
open Go.RowKit

/-- Is the k-th shift better than what was found. -/
noncomputable def fewBetter (ns zs : List Int) (k : Nat) (s : Bool × Int × List Int) : Bool := exB (shK k) zs && (!s.1 || decide ((exV ns (shK k) zs).length < s.2.2.length))
/-- Found, the best shift and its notes after k shifts. -/
noncomputable def few (ns zs : List Int) : Nat → Bool × Int × List Int
  | 0 => (false, 0, [])
  | k + 1 => if fewBetter ns zs k (few ns zs k) = true then (true, shK k, exV ns (shK k) zs) else few ns zs k
theorem few_zero (ns zs : List Int) : few ns zs 0 = (false, 0, []) := rfl
theorem few_yes {ns zs : List Int} {k : Nat} (h : fewBetter ns zs k (few ns zs k) = true) : few ns zs (k + 1) = (true, shK k, exV ns (shK k) zs) := by
  show (if _ then _ else _) = _; rw [if_pos h]
theorem few_no {ns zs : List Int} {k : Nat} (h : ¬ fewBetter ns zs k (few ns zs k) = true) : few ns zs (k + 1) = few ns zs k := by
  show (if _ then _ else _) = _; rw [if_neg h]
theorem few_len (ns zs : List Int) : ∀ k, (few ns zs k).2.2.length ≤ zs.length
  | 0 => by simp [few_zero]
  | k + 1 => by
    by_cases h : fewBetter ns zs k (few ns zs k) = true
    · rw [few_yes h]; exact exV_len _ _ _
    · rw [few_no h]; exact few_len ns zs k
theorem better_a {ns zs : List Int} {k : Nat} {s : Bool × Int × List Int} (h : exB (shK k) zs = false) : ¬ fewBetter ns zs k s = true := by simp [fewBetter, h]
theorem better_b {ns zs : List Int} {k : Nat} {l : Int} {q : List Int} (h : exB (shK k) zs = true) : fewBetter ns zs k (false, l, q) = true := by simp [fewBetter, h]
theorem better_c {ns zs : List Int} {k : Nat} {l : Int} {q : List Int} (h : exB (shK k) zs = true) (h2 : (exV ns (shK k) zs).length < q.length) : fewBetter ns zs k (true, l, q) = true := by simp [fewBetter, h, h2]
theorem better_d {ns zs : List Int} {k : Nat} {l : Int} {q : List Int} (h2 : ¬ (exV ns (shK k) zs).length < q.length) : ¬ fewBetter ns zs k (true, l, q) = true := by simp [fewBetter]; intro _; omega

noncomputable def feV (x : TunD) (ns : List Int) : List Int := if askC x ns 0 = 0 then (few ns (sel allT x.tones) 49).2.2 else []
noncomputable def feN (x : TunD) (ns : List Int) : Int := if askC x ns 0 = 0 then (few ns (sel allT x.tones) 49).2.1 else 0
noncomputable def feC (x : TunD) (ns : List Int) : Int := if askC x ns 0 = 0 then (if (few ns (sel allT x.tones) 49).1 = true then 0 else 3) else askC x ns 0
/-- Nothing found: nothing kept. -/
theorem few_none (ns zs : List Int) : ∀ k, (few ns zs k).1 = false → few ns zs k = (false, 0, [])
  | 0, _ => rfl
  | k + 1, h => by
    by_cases g : fewBetter ns zs k (few ns zs k) = true
    · rw [few_yes g] at h; cases h
    · rw [few_no g] at h ⊢; exact few_none ns zs k h
theorem fe_len (x : TunD) (ns : List Int) (h : x.tones.length ≤ 1048576) : (feV x ns).length ≤ 1048576 := by
  unfold feV; split
  · have := few_len ns (sel allT x.tones) 49; rw [sel_eq] at *; simp at *; omega
  · simp

end Go.Proofs.Ytemmnjokojgjaaa
/- Contracts of FewestExtra of both packages. -/
set_option linter.unusedSimpArgs false
set_option linter.unnecessarySimpa false
set_option linter.unusedVariables false
set_option maxRecDepth 100000
namespace Go.Proofs.Ytemmnjokojgjaaa
open Go.RowKit

end Go.Proofs.Ytemmnjokojgjaaa
/- Contract of FewestExtra of the implementation. -/
set_option linter.unusedSimpArgs false
set_option linter.unnecessarySimpa false
set_option linter.unusedVariables false
set_option maxRecDepth 100000
namespace Go.Proofs.Ytemmnjokojgjaaa
open Go.RowKit

set_option maxHeartbeats 2000000 in
theorem implFewestExtra_any (v : Value) (x : TunD) (v2 : Value) (ns : List Int) (w : World) (h : RdTun w v x) (ok : x.ok) (_ : x.tones.length ≤ 1048576) (hn : RdInts w v2 ns) (_ : ∀ x ∈ ns, I64 x) (_ : ns.length ≤ 1048576) :
    Calls Try.prog 31 #[v, v2] w fun e w' => ∃ v', e = .returned (.tuple #[.int .i64 (feN x ns), v', .int .i64 (feC x ns)]) ∧ OwnInts w.heap.size w'.heap.size w' v' (feV x ns) ∧ Below w.heap.size w w' := by
  obtain ⟨lv, rfl, hlv⟩ := h
  have hn : Ints w v2 ns := hn
  obtain ⟨a1, cs1, rfl, _, _, _⟩ := id hn
  by_cases ga : askC x ns 0 = 0
  · have AV := Lib.hid (ask_zero.1 ga)
    obtain ⟨zs, hzs⟩ : ∃ zs, zs = sel allT x.tones := ⟨_, rfl⟩
    have E := Lib.hid (show feV x ns = (few ns zs 49).2.2 ∧ feN x ns = (few ns zs 49).2.1 ∧ feC x ns = if (few ns zs 49).1 = true then 0 else 3 by unfold feV feN feC; rw [if_pos ga, if_pos ga, if_pos ga, hzs]; exact ⟨rfl, rfl, rfl⟩)
    have hzl : zs.length ≤ 128 := by rw [hzs, sel_eq]; simpa using tun_len AV.out.1
    have ZE := Lib.hid hzs; clear hzs
    have d0 : (askC x ns 0 != 0) = false := by simpa using ga
    have A0 := Lib.hid ga; clear ga
    go_enter Try.func31, Try.ntmps31
    go_wp2_with fail
    refine (arranged_any _ lv _ x ns 0 _ ⟨rfl, hlv.mono (by (repeat (first | with_reducible exact Below.refl _ _ | with_reducible exact hbw | (with_reducible refine Below.setCell ?_ ?_ _; rotate_left; · first | exact Nat.le_refl _ | omega | (simp; done) | (simp; omega)) | (with_reducible refine Below.alloc ?_ ?_ _; rotate_left; · first | exact Nat.le_refl _ | omega | (simp; done) | (simp; omega)) | with_reducible refine below_drewN ?_ _ | with_reducible refine Below.drew ?_)))⟩ ok.1 (Ints.mono hn (by (repeat (first | with_reducible exact Below.refl _ _ | with_reducible exact hbw | (with_reducible refine Below.setCell ?_ ?_ _; rotate_left; · first | exact Nat.le_refl _ | omega | (simp; done) | (simp; omega)) | (with_reducible refine Below.alloc ?_ ?_ _; rotate_left; · first | exact Nat.le_refl _ | omega | (simp; done) | (simp; omega)) | with_reducible refine below_drewN ?_ _ | with_reducible refine Below.drew ?_))))).mono ?_
    rintro e w1 ⟨rfl, hb⟩
    have hbw : Below w.heap.size w w1 := Below.trans (by (repeat (first | with_reducible exact Below.refl _ _ | with_reducible exact hbw | (with_reducible refine Below.setCell ?_ ?_ _; rotate_left; · first | exact Nat.le_refl _ | omega | (simp; done) | (simp; omega)) | (with_reducible refine Below.alloc ?_ ?_ _; rotate_left; · first | exact Nat.le_refl _ | omega | (simp; done) | (simp; omega)) | with_reducible refine below_drewN ?_ _ | with_reducible refine Below.drew ?_))) (hb.mono (by simp <;> omega))
    have y0 : w1.cell? ⟨w.heap.size, 0, none⟩ = some (.string x.name) := cellB hb (by simp [go_sem])
    have y1 : w1.cell? ⟨w.heap.size, 1, none⟩ = some lv := cellB hb (by simp [go_sem])
    clear hb
    have hsz1 := hbw.size
    have hl1 := World.block_lt_of_cell? _ _ y0
    simp only at hl1
    go_wp2_with fail
    refine (shifts_any _).mono ?_
    rintro e w2 ⟨vL, rfl, hoL, hbL⟩
    have hbw2 := hbw.trans (hbL.mono hsz1)
    have hL : Sl w2 vL 49 ((shL 49).map (Value.int .i64)) := Sl.of_owns hoL
    obtain ⟨b9, c9, rfl, _, _, _⟩ := id hL
    have z0 := cellB hbL y0
    have z1 := cellB hbL y1
    clear hoL hbL
    go_wp2_with fail
    go_loopw [8, 9, 10, 23, 12, 13, 14] (fun b f q i _ _ _ wr => ∃ (k : Nat) (f0 : Bool) (l : Int) (y : List Int) (a' : Option Addr) (c' : Nat), k ≤ 49 ∧ (f0, l, y) = few ns zs k ∧ i = .int .i64 (k : Int) ∧ b = .int .i64 l ∧ f = .bool f0 ∧ q = .slice a' y.length c' ∧ wr.ownsRow w2.heap.size 2 1 (.slice a' y.length c') y.length (y.map (Value.int .i64)) ∧ Below w2.heap.size w2 wr) (fun _ _ _ i _ _ _ _ => 49 - (intOf i).toNat)
    case atStart => exact ⟨0, false, 0, [], none, 0, by omega, rfl, by go_num, rfl, rfl, rfl, owns_nil _ _ _ _, Below.refl _ _⟩
    case round =>
      obtain ⟨k, f, l, q, a2, c2, hk, hs, rfl, rfl, rfl, rfl, ho, hb⟩ := hrel
      have hz := hb.size
      have u0 := cellB hb z0
      have u1 := cellB hb z1
      have HS := Lib.hid hs; clear hs
      by_cases hlt : k ≤ 48
      · have dk : decide ((k : Int) < 49) = true := by simp; omega
        by_cases gx : exB (shK k) zs = true
        · have EX := Lib.hid gx; clear gx
          cases f
          · have S := Lib.hid (few_yes (show fewBetter ns zs k (few ns zs k) = true by rw [← HS.out]; exact better_b EX.out))
            obtain ⟨p, o, rfl, c9⟩ := (hL.mono hb).cells (by simp [shL_len])
            have hp : wr.cell? ⟨p, o + k, none⟩ = some (.int .i64 (shK k)) := c9 k _ (by rw [List.getElem?_map, List.getElem?_eq_getElem (by rw [shL_len]; omega), shL_get]; rfl)
            clear c9
            have lp := World.block_lt_of_cell? _ _ hp
            simp only at lp
            go_wp2_with fail
            refine (extraNotes_any _ lv _ x ns (shK k) _ ⟨rfl, hlv.mono (hbw2.trans (hb.mono hbw2.size))⟩ (Ints.mono hn (hbw2.trans (hb.mono hbw2.size))) AV.out.1 AV.out.2.1 (shK_bd (by omega))).mono ?_
            rw [← ZE.out, EX.out]
            rintro e w3 ⟨v3, rfl, ho3, st⟩
            have hb2 := hb.trans (st.mono hz)
            have ho3' := owns_base ho3.1 hz
            obtain ⟨a3, c3, rfl⟩ := owns_slice ho3.1
            clear ho3
            go_wp2
            go_roundw
            case rel => exact ⟨k + 1, true, shK k, exV ns (shK k) zs, a3, c3, by omega, by rw [S.out], by go_num, rfl, rfl, rfl, ho3', hb2⟩
            case measure => simp [intOf] <;> omega
          · by_cases gl : (exV ns (shK k) zs).length < q.length
            · have S := Lib.hid (few_yes (show fewBetter ns zs k (few ns zs k) = true by rw [← HS.out]; exact better_c EX.out gl))
              have dl : decide (((exV ns (shK k) zs).length : Int) < (q.length : Int)) = true := by simp; omega
              have dl2 : decide ((exV ns (shK k) zs).length < q.length) = true := by simp; omega
              have GL := Lib.hid gl; clear gl
              obtain ⟨p, o, rfl, c9⟩ := (hL.mono hb).cells (by simp [shL_len])
              have hp : wr.cell? ⟨p, o + k, none⟩ = some (.int .i64 (shK k)) := c9 k _ (by rw [List.getElem?_map, List.getElem?_eq_getElem (by rw [shL_len]; omega), shL_get]; rfl)
              clear c9
              have lp := World.block_lt_of_cell? _ _ hp
              simp only at lp
              go_wp2_with fail
              refine (extraNotes_any _ lv _ x ns (shK k) _ ⟨rfl, hlv.mono (hbw2.trans (hb.mono hbw2.size))⟩ (Ints.mono hn (hbw2.trans (hb.mono hbw2.size))) AV.out.1 AV.out.2.1 (shK_bd (by omega))).mono ?_
              rw [← ZE.out, EX.out]
              rintro e w3 ⟨v3, rfl, ho3, st⟩
              have hb2 := hb.trans (st.mono hz)
              have ho3' := owns_base ho3.1 hz
              obtain ⟨a3, c3, rfl⟩ := owns_slice ho3.1
              clear ho3
              go_wp2
              go_roundw
              case rel => exact ⟨k + 1, true, shK k, exV ns (shK k) zs, a3, c3, by omega, by rw [S.out], by go_num, rfl, rfl, rfl, ho3', hb2⟩
              case measure => simp [intOf] <;> omega
            · have S := Lib.hid (few_no (show ¬ fewBetter ns zs k (few ns zs k) = true by rw [← HS.out]; exact better_d gl))
              have dl : decide (((exV ns (shK k) zs).length : Int) < (q.length : Int)) = false := by simp; omega
              have dl2 : decide ((exV ns (shK k) zs).length < q.length) = false := by simp; omega
              have GL := Lib.hid gl; clear gl
              obtain ⟨p, o, rfl, c9⟩ := (hL.mono hb).cells (by simp [shL_len])
              have hp : wr.cell? ⟨p, o + k, none⟩ = some (.int .i64 (shK k)) := c9 k _ (by rw [List.getElem?_map, List.getElem?_eq_getElem (by rw [shL_len]; omega), shL_get]; rfl)
              clear c9
              have lp := World.block_lt_of_cell? _ _ hp
              simp only at lp
              go_wp2_with fail
              refine (extraNotes_any _ lv _ x ns (shK k) _ ⟨rfl, hlv.mono (hbw2.trans (hb.mono hbw2.size))⟩ (Ints.mono hn (hbw2.trans (hb.mono hbw2.size))) AV.out.1 AV.out.2.1 (shK_bd (by omega))).mono ?_
              rw [← ZE.out, EX.out]
              rintro e w3 ⟨v3, rfl, ho3, st⟩
              have hb2 := hb.trans (st.mono hz)
              have ho3' := owns_base ho3.1 hz
              obtain ⟨a3, c3, rfl⟩ := owns_slice ho3.1
              clear ho3
              go_wp2
              go_roundw
              case rel => exact ⟨k + 1, true, l, q, a2, c2, by omega, by rw [S.out, HS.out], by go_num, rfl, rfl, rfl, owns_mono ho st, hb2⟩
              case measure => simp [intOf] <;> omega
        · have gx' : exB (shK k) zs = false := by simpa using gx
          have S := Lib.hid (few_no (better_a (s := few ns zs k) (ns := ns) gx'))
          have EX := Lib.hid gx'; clear gx gx'
          obtain ⟨p, o, rfl, c9⟩ := (hL.mono hb).cells (by simp [shL_len])
          have hp : wr.cell? ⟨p, o + k, none⟩ = some (.int .i64 (shK k)) := c9 k _ (by rw [List.getElem?_map, List.getElem?_eq_getElem (by rw [shL_len]; omega), shL_get]; rfl)
          clear c9
          have lp := World.block_lt_of_cell? _ _ hp
          simp only at lp
          go_wp2_with fail
          refine (extraNotes_any _ lv _ x ns (shK k) _ ⟨rfl, hlv.mono (hbw2.trans (hb.mono hbw2.size))⟩ (Ints.mono hn (hbw2.trans (hb.mono hbw2.size))) AV.out.1 AV.out.2.1 (shK_bd (by omega))).mono ?_
          rw [← ZE.out, EX.out]
          rintro e w3 ⟨v3, rfl, ho3, st⟩
          have hb2 := hb.trans (st.mono hz)
          have ho3' := owns_base ho3.1 hz
          obtain ⟨a3, c3, rfl⟩ := owns_slice ho3.1
          clear ho3
          go_wp2
          go_roundw
          case rel => exact ⟨k + 1, f, l, q, a2, c2, by omega, by rw [S.out, HS.out], by go_num, rfl, rfl, rfl, owns_mono ho st, hb2⟩
          case measure => simp [intOf] <;> omega
      · obtain rfl : k = 49 := by omega
        obtain ⟨e1, e2, e3⟩ := E.out
        rw [← HS.out] at e1 e2 e3
        simp only at e1 e2 e3
        cases f
        · have hq := few_none ns zs 49 (by rw [← HS.out])
          rw [← HS.out] at hq
          obtain ⟨rfl, rfl⟩ : l = 0 ∧ q = [] := by simpa using hq
          have R := Lib.hid (show feV x ns = [] ∧ feN x ns = 0 ∧ feC x ns = 3 from ⟨e1, e2, by rw [e3]; rfl⟩)
          clear e1 e2 e3 hq
          go_wp2
          go_ret3
          exact ⟨_, by rw [R.out.2.1, R.out.2.2]; rfl, by rw [R.out.1]; exact OwnInts.nil _ _ _, hbw2.trans (hb.mono hbw2.size)⟩
        · have R := Lib.hid (show feV x ns = q ∧ feN x ns = l ∧ feC x ns = 0 from ⟨e1, e2, by rw [e3]; rfl⟩)
          clear e1 e2 e3
          go_wp2
          go_ret3
          exact ⟨_, by rw [R.out.2.1, R.out.2.2]; rfl, by rw [R.out.1]; exact OwnRow.mk' (owns_base ho hbw2.size), hbw2.trans (hb.mono hbw2.size)⟩
  · have E := Lib.hid (show feV x ns = [] ∧ feN x ns = 0 ∧ feC x ns = askC x ns 0 by unfold feV feN feC; rw [if_neg ga, if_neg ga, if_neg ga]; exact ⟨rfl, rfl, rfl⟩)
    have d0 : (askC x ns 0 != 0) = true := by simpa using ga
    clear ga
    go_enter Try.func31, Try.ntmps31
    go_wp2_with fail
    refine (arranged_any _ lv _ x ns 0 _ ⟨rfl, hlv.mono (by (repeat (first | with_reducible exact Below.refl _ _ | with_reducible exact hbw | (with_reducible refine Below.setCell ?_ ?_ _; rotate_left; · first | exact Nat.le_refl _ | omega | (simp; done) | (simp; omega)) | (with_reducible refine Below.alloc ?_ ?_ _; rotate_left; · first | exact Nat.le_refl _ | omega | (simp; done) | (simp; omega)) | with_reducible refine below_drewN ?_ _ | with_reducible refine Below.drew ?_)))⟩ ok.1 (Ints.mono hn (by (repeat (first | with_reducible exact Below.refl _ _ | with_reducible exact hbw | (with_reducible refine Below.setCell ?_ ?_ _; rotate_left; · first | exact Nat.le_refl _ | omega | (simp; done) | (simp; omega)) | (with_reducible refine Below.alloc ?_ ?_ _; rotate_left; · first | exact Nat.le_refl _ | omega | (simp; done) | (simp; omega)) | with_reducible refine below_drewN ?_ _ | with_reducible refine Below.drew ?_))))).mono ?_
    rintro e w1 ⟨rfl, hb⟩
    have hbw : Below w.heap.size w w1 := Below.trans (by (repeat (first | with_reducible exact Below.refl _ _ | with_reducible exact hbw | (with_reducible refine Below.setCell ?_ ?_ _; rotate_left; · first | exact Nat.le_refl _ | omega | (simp; done) | (simp; omega)) | (with_reducible refine Below.alloc ?_ ?_ _; rotate_left; · first | exact Nat.le_refl _ | omega | (simp; done) | (simp; omega)) | with_reducible refine below_drewN ?_ _ | with_reducible refine Below.drew ?_))) (hb.mono (by simp <;> omega))
    clear hb
    go_wp2
    go_ret3
    exact ⟨_, by rw [E.out.2.1, E.out.2.2]; rfl, by rw [E.out.1]; exact OwnInts.nil _ _ _, hbw⟩

end Go.Proofs.Ytemmnjokojgjaaa
