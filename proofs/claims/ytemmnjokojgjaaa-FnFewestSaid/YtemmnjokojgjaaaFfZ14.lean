import Derived.Test.YtemmnjokojgjaaaFfZ13
import Derived.Test.YtemmnjokojgjaaaFfZ7
import Derived.Test.YtemmnjokojgjaaaFfZ1
import Derived.Test.YtemmnjokojgjaaaFfZ3
import Derived.Test.YtemmnjokojgjaaaFfZ6
import Derived.Test.YtemmnjokojgjaaaFfZ9
/- Contracts of ArrangeTune, ArrangeCost and BestShift of both packages. -/
set_option linter.unusedSimpArgs false
set_option linter.unnecessarySimpa false
set_option linter.unusedVariables false
set_option maxRecDepth 100000
namespace Go.Proofs.Ytemmnjokojgjaaa
open Go.RowKit

theorem arC_w {x : TunD} {ns : List Int} {b : Int} (hx : validTunB x = true) (hs : SetIn ns) : IntKind.i64.wrap (10 * arD x ns b) = 10 * arD x ns b ∧ IntKind.i64.wrap (arM x ns b + 10 * arD x ns b) = arM x ns b + 10 * arD x ns b := by
  have := ar_bd (b := b) hx hs
  exact ⟨IntWalk.i64_in _ (by omega), IntWalk.i64_in _ (by omega)⟩

set_option maxHeartbeats 1000000 in
theorem arrangeCost_any (vt lv v : Value) (x : TunD) (ns : List Int) (b : Int) (w : World) (h : Tun w vt lv x) (hn : Ints w v ns) (ok : validTunB x = true) (hset : SetIn ns) (hs : shiftIn b) (hnm : x.name.size ≤ maxLen) (o : Int) (ho : o = arC x ns b) :
    Calls Try.prog 50 #[vt, v, .int .i64 b] w fun e w' => e = .returned (.int .i64 o) ∧ Below w.heap.size w w' := by
  obtain ⟨rfl, hlv⟩ := h
  obtain ⟨a9, c9, rfl, _, _, _⟩ := id hn
  obtain ⟨q1, q2⟩ := arC_w (b := b) ok hset
  have HO := Lib.hid ho
  have HC := Lib.hid (show arM x ns b = mvCnt (arTo ns b x.tones x.tones.length).2 (arTo ns b x.tones x.tones.length).1.length ∧ arD x ns b = (x.tones.length : Int) - (arTo ns b x.tones x.tones.length).1.length from ⟨rfl, rfl⟩)
  clear ho
  go_enter Try.func50, Try.ntmps50
  go_wp2_with fail
  refine (arrange_any _ lv _ x ns b _ ⟨rfl, hlv.mono (by (repeat (first | with_reducible exact Below.refl _ _ | with_reducible exact hbw | (with_reducible refine Below.setCell ?_ ?_ _; rotate_left; · first | exact Nat.le_refl _ | omega | (simp; done) | (simp; omega)) | (with_reducible refine Below.alloc ?_ ?_ _; rotate_left; · first | exact Nat.le_refl _ | omega | (simp; done) | (simp; omega)) | with_reducible refine below_drewN ?_ _ | with_reducible refine Below.drew ?_)))⟩ (Ints.mono hn (by (repeat (first | with_reducible exact Below.refl _ _ | with_reducible exact hbw | (with_reducible refine Below.setCell ?_ ?_ _; rotate_left; · first | exact Nat.le_refl _ | omega | (simp; done) | (simp; omega)) | (with_reducible refine Below.alloc ?_ ?_ _; rotate_left; · first | exact Nat.le_refl _ | omega | (simp; done) | (simp; omega)) | with_reducible refine below_drewN ?_ _ | with_reducible refine Below.drew ?_)))) ok hset hs hnm).mono ?_
  rw [← HC.out.1, ← HC.out.2]
  rintro e w1 ⟨v1, rfl, ⟨l1, rfl, ho1⟩, hb⟩
  obtain ⟨a1, c1, rfl⟩ := ho1.form
  have hbw : Below w.heap.size w w1 := Below.trans (by (repeat (first | with_reducible exact Below.refl _ _ | with_reducible exact hbw | (with_reducible refine Below.setCell ?_ ?_ _; rotate_left; · first | exact Nat.le_refl _ | omega | (simp; done) | (simp; omega)) | (with_reducible refine Below.alloc ?_ ?_ _; rotate_left; · first | exact Nat.le_refl _ | omega | (simp; done) | (simp; omega)) | with_reducible refine below_drewN ?_ _ | with_reducible refine Below.drew ?_))) (hb.mono (by simp <;> omega))
  have HB := Lib.hid hbw
  clear hb ho1 hbw
  go_wp2
  go_ret
  refine ⟨ret_int (by rw [HO.out]; rfl), ?_⟩
  have hbw := HB.out
  have hz := hbw.size
  (repeat (first | with_reducible exact Below.refl _ _ | with_reducible exact hbw | (with_reducible refine Below.setCell ?_ ?_ _; rotate_left; · first | exact Nat.le_refl _ | omega | (simp; done) | (simp; omega)) | (with_reducible refine Below.alloc ?_ ?_ _; rotate_left; · first | exact Nat.le_refl _ | omega | (simp; done) | (simp; omega)) | with_reducible refine below_drewN ?_ _ | with_reducible refine Below.drew ?_))

set_option maxHeartbeats 1000000 in
theorem l26Cost_any (kb : Nat) (lv v : Value) (x : TunD) (ns : List Int) (b : Int) (w : World) (h : TunIn w kb lv x) (hn : Ints w v ns) (ok : validTunB x = true) (hset : SetIn ns) (hs : shiftIn b) (o : Int) (ho : o = arC x ns b) :
    Calls Try.prog 49 #[.pointer (some ⟨kb, 0, none⟩), v, .int .i64 b] w fun e w' => e = .returned (.int .i64 o) ∧ Below w.heap.size w w' := by
  obtain ⟨a9, c9, rfl, _, _, _⟩ := id hn
  obtain ⟨q1, q2⟩ := arC_w (b := b) ok hset
  have HO := Lib.hid ho
  have HT := Lib.hid h
  clear ho h
  go_enter Try.func49, Try.ntmps49
  go_wp2_with fail
  refine (l26Arrange_any _ lv _ x ns b _ HT.out hn ok hset hs).mono ?_
  rintro e w1 ⟨v1, rfl, ⟨l1, rfl, ho1⟩, hb⟩
  obtain ⟨a1, c1, rfl⟩ := ho1.form
  have HB := Lib.hid hb
  clear hb ho1
  go_wp2
  go_ret
  refine ⟨ret_int (by rw [HO.out]; rfl), ?_⟩
  have hbw := HB.out
  have hz := hbw.size
  (repeat (first | with_reducible exact Below.refl _ _ | with_reducible exact hbw | (with_reducible refine Below.setCell ?_ ?_ _; rotate_left; · first | exact Nat.le_refl _ | omega | (simp; done) | (simp; omega)) | (with_reducible refine Below.alloc ?_ ?_ _; rotate_left; · first | exact Nat.le_refl _ | omega | (simp; done) | (simp; omega)) | with_reducible refine below_drewN ?_ _ | with_reducible refine Below.drew ?_))

set_option maxHeartbeats 1000000 in
theorem specArrangeCost_any (v : Value) (x : TunD) (v2 : Value) (ns : List Int) (b : Int) (w : World) (h : RdTun w v x) (ok : x.ok) (_ : x.tones.length ≤ 1048576) (hn : RdInts w v2 ns) (_ : ∀ x ∈ ns, I64 x) (_ : ns.length ≤ 1048576) (_ : I64 b) :
    Calls Try.prog 18 #[v, v2, .int .i64 b] w fun e w' => e = .returned (.tuple #[.int .i64 (acoV x ns b), .int .i64 (askC x ns b)]) ∧ Below w.heap.size w w' := by
  obtain ⟨lv, rfl, hlv⟩ := h
  have hn : Ints w v2 ns := hn
  obtain ⟨a1, cs1, rfl, _, _, _⟩ := id hn
  by_cases ga : askC x ns b = 0
  · have AV := Lib.hid (ask_zero.1 ga)
    have E := Lib.hid (show acoV x ns b = arC x ns b by unfold acoV; rw [if_pos ga])
    have d0 : (askC x ns b != 0) = false := by simpa using ga
    have A0 := Lib.hid ga; clear ga
    go_enter Try.func18, Try.ntmps18
    go_wp2_with fail
    refine (l26Ask_any _ lv _ x ns b _ ⟨by simp [go_sem], by simp [go_sem], hlv.mono (by (repeat (first | with_reducible exact Below.refl _ _ | with_reducible exact hbw | (with_reducible refine Below.setCell ?_ ?_ _; rotate_left; · first | exact Nat.le_refl _ | omega | (simp; done) | (simp; omega)) | (with_reducible refine Below.alloc ?_ ?_ _; rotate_left; · first | exact Nat.le_refl _ | omega | (simp; done) | (simp; omega)) | with_reducible refine below_drewN ?_ _ | with_reducible refine Below.drew ?_))), ok.1⟩ (Ints.mono hn (by (repeat (first | with_reducible exact Below.refl _ _ | with_reducible exact hbw | (with_reducible refine Below.setCell ?_ ?_ _; rotate_left; · first | exact Nat.le_refl _ | omega | (simp; done) | (simp; omega)) | (with_reducible refine Below.alloc ?_ ?_ _; rotate_left; · first | exact Nat.le_refl _ | omega | (simp; done) | (simp; omega)) | with_reducible refine below_drewN ?_ _ | with_reducible refine Below.drew ?_))))).mono ?_
    rintro e w1 ⟨rfl, hb⟩
    have hbw : Below w.heap.size w w1 := Below.trans (by (repeat (first | with_reducible exact Below.refl _ _ | with_reducible exact hbw | (with_reducible refine Below.setCell ?_ ?_ _; rotate_left; · first | exact Nat.le_refl _ | omega | (simp; done) | (simp; omega)) | (with_reducible refine Below.alloc ?_ ?_ _; rotate_left; · first | exact Nat.le_refl _ | omega | (simp; done) | (simp; omega)) | with_reducible refine below_drewN ?_ _ | with_reducible refine Below.drew ?_))) (hb.mono (by simp <;> omega))
    have y0 : w1.cell? ⟨w.heap.size, 0, none⟩ = some (.string x.name) := cellB hb (by simp [go_sem])
    have y1 : w1.cell? ⟨w.heap.size, 1, none⟩ = some lv := cellB hb (by simp [go_sem])
    have hz1 : w.heap.size < w1.heap.size := by have := hb.size; simp at this; omega
    clear hb
    go_wp2_with fail
    refine (l26Cost_any _ lv _ x ns b _ ⟨y0, y1, hlv.mono hbw, ok.1⟩ (Ints.mono hn hbw) AV.out.1 (set_in AV.out.2.1) AV.out.2.2 _ rfl).mono ?_
    rintro e w2 ⟨rfl, h2⟩
    go_wp2
    go_ret2
    exact ⟨by rw [E.out, A0.out]; rfl, hbw.trans (h2.mono hbw.size)⟩
  · have E := Lib.hid (show acoV x ns b = 0 by unfold acoV; rw [if_neg ga])
    have d0 : (askC x ns b != 0) = true := by simpa using ga
    clear ga
    go_enter Try.func18, Try.ntmps18
    go_wp2_with fail
    refine (l26Ask_any _ lv _ x ns b _ ⟨by simp [go_sem], by simp [go_sem], hlv.mono (by (repeat (first | with_reducible exact Below.refl _ _ | with_reducible exact hbw | (with_reducible refine Below.setCell ?_ ?_ _; rotate_left; · first | exact Nat.le_refl _ | omega | (simp; done) | (simp; omega)) | (with_reducible refine Below.alloc ?_ ?_ _; rotate_left; · first | exact Nat.le_refl _ | omega | (simp; done) | (simp; omega)) | with_reducible refine below_drewN ?_ _ | with_reducible refine Below.drew ?_))), ok.1⟩ (Ints.mono hn (by (repeat (first | with_reducible exact Below.refl _ _ | with_reducible exact hbw | (with_reducible refine Below.setCell ?_ ?_ _; rotate_left; · first | exact Nat.le_refl _ | omega | (simp; done) | (simp; omega)) | (with_reducible refine Below.alloc ?_ ?_ _; rotate_left; · first | exact Nat.le_refl _ | omega | (simp; done) | (simp; omega)) | with_reducible refine below_drewN ?_ _ | with_reducible refine Below.drew ?_))))).mono ?_
    rintro e w1 ⟨rfl, hb⟩
    have hbw : Below w.heap.size w w1 := Below.trans (by (repeat (first | with_reducible exact Below.refl _ _ | with_reducible exact hbw | (with_reducible refine Below.setCell ?_ ?_ _; rotate_left; · first | exact Nat.le_refl _ | omega | (simp; done) | (simp; omega)) | (with_reducible refine Below.alloc ?_ ?_ _; rotate_left; · first | exact Nat.le_refl _ | omega | (simp; done) | (simp; omega)) | with_reducible refine below_drewN ?_ _ | with_reducible refine Below.drew ?_))) (hb.mono (by simp <;> omega))
    have y0 : w1.cell? ⟨w.heap.size, 0, none⟩ = some (.string x.name) := cellB hb (by simp [go_sem])
    have y1 : w1.cell? ⟨w.heap.size, 1, none⟩ = some lv := cellB hb (by simp [go_sem])
    have hz1 : w.heap.size < w1.heap.size := by have := hb.size; simp at this; omega
    clear hb
    go_wp2
    go_ret2
    exact ⟨by rw [E.out]; rfl, hbw⟩

set_option maxHeartbeats 1000000 in
theorem implArrangeCost_any (v : Value) (x : TunD) (v2 : Value) (ns : List Int) (b : Int) (w : World) (h : RdTun w v x) (ok : x.ok) (_ : x.tones.length ≤ 1048576) (hn : RdInts w v2 ns) (_ : ∀ x ∈ ns, I64 x) (_ : ns.length ≤ 1048576) (_ : I64 b) :
    Calls Try.prog 19 #[v, v2, .int .i64 b] w fun e w' => e = .returned (.tuple #[.int .i64 (acoV x ns b), .int .i64 (askC x ns b)]) ∧ Below w.heap.size w w' := by
  obtain ⟨lv, rfl, hlv⟩ := h
  have hn : Ints w v2 ns := hn
  obtain ⟨a1, cs1, rfl, _, _, _⟩ := id hn
  by_cases ga : askC x ns b = 0
  · have AV := Lib.hid (ask_zero.1 ga)
    have E := Lib.hid (show acoV x ns b = arC x ns b by unfold acoV; rw [if_pos ga])
    have d0 : (askC x ns b != 0) = false := by simpa using ga
    have A0 := Lib.hid ga; clear ga
    go_enter Try.func19, Try.ntmps19
    go_wp2_with fail
    refine (arranged_any _ lv _ x ns b _ ⟨rfl, hlv.mono (by (repeat (first | with_reducible exact Below.refl _ _ | with_reducible exact hbw | (with_reducible refine Below.setCell ?_ ?_ _; rotate_left; · first | exact Nat.le_refl _ | omega | (simp; done) | (simp; omega)) | (with_reducible refine Below.alloc ?_ ?_ _; rotate_left; · first | exact Nat.le_refl _ | omega | (simp; done) | (simp; omega)) | with_reducible refine below_drewN ?_ _ | with_reducible refine Below.drew ?_)))⟩ ok.1 (Ints.mono hn (by (repeat (first | with_reducible exact Below.refl _ _ | with_reducible exact hbw | (with_reducible refine Below.setCell ?_ ?_ _; rotate_left; · first | exact Nat.le_refl _ | omega | (simp; done) | (simp; omega)) | (with_reducible refine Below.alloc ?_ ?_ _; rotate_left; · first | exact Nat.le_refl _ | omega | (simp; done) | (simp; omega)) | with_reducible refine below_drewN ?_ _ | with_reducible refine Below.drew ?_))))).mono ?_
    rintro e w1 ⟨rfl, hb⟩
    have hbw : Below w.heap.size w w1 := Below.trans (by (repeat (first | with_reducible exact Below.refl _ _ | with_reducible exact hbw | (with_reducible refine Below.setCell ?_ ?_ _; rotate_left; · first | exact Nat.le_refl _ | omega | (simp; done) | (simp; omega)) | (with_reducible refine Below.alloc ?_ ?_ _; rotate_left; · first | exact Nat.le_refl _ | omega | (simp; done) | (simp; omega)) | with_reducible refine below_drewN ?_ _ | with_reducible refine Below.drew ?_))) (hb.mono (by simp <;> omega))
    have y0 : w1.cell? ⟨w.heap.size, 0, none⟩ = some (.string x.name) := cellB hb (by simp [go_sem])
    have y1 : w1.cell? ⟨w.heap.size, 1, none⟩ = some lv := cellB hb (by simp [go_sem])
    have hz1 : w.heap.size < w1.heap.size := by have := hb.size; simp at this; omega
    clear hb
    go_wp2_with fail
    refine (arrangeCost_any _ lv _ x ns b _ ⟨rfl, hlv.mono hbw⟩ (Ints.mono hn hbw) AV.out.1 (set_in AV.out.2.1) AV.out.2.2 ok.1 _ rfl).mono ?_
    rintro e w2 ⟨rfl, h2⟩
    go_wp2
    go_ret2
    exact ⟨by rw [E.out, A0.out]; rfl, hbw.trans (h2.mono hbw.size)⟩
  · have E := Lib.hid (show acoV x ns b = 0 by unfold acoV; rw [if_neg ga])
    have d0 : (askC x ns b != 0) = true := by simpa using ga
    clear ga
    go_enter Try.func19, Try.ntmps19
    go_wp2_with fail
    refine (arranged_any _ lv _ x ns b _ ⟨rfl, hlv.mono (by (repeat (first | with_reducible exact Below.refl _ _ | with_reducible exact hbw | (with_reducible refine Below.setCell ?_ ?_ _; rotate_left; · first | exact Nat.le_refl _ | omega | (simp; done) | (simp; omega)) | (with_reducible refine Below.alloc ?_ ?_ _; rotate_left; · first | exact Nat.le_refl _ | omega | (simp; done) | (simp; omega)) | with_reducible refine below_drewN ?_ _ | with_reducible refine Below.drew ?_)))⟩ ok.1 (Ints.mono hn (by (repeat (first | with_reducible exact Below.refl _ _ | with_reducible exact hbw | (with_reducible refine Below.setCell ?_ ?_ _; rotate_left; · first | exact Nat.le_refl _ | omega | (simp; done) | (simp; omega)) | (with_reducible refine Below.alloc ?_ ?_ _; rotate_left; · first | exact Nat.le_refl _ | omega | (simp; done) | (simp; omega)) | with_reducible refine below_drewN ?_ _ | with_reducible refine Below.drew ?_))))).mono ?_
    rintro e w1 ⟨rfl, hb⟩
    have hbw : Below w.heap.size w w1 := Below.trans (by (repeat (first | with_reducible exact Below.refl _ _ | with_reducible exact hbw | (with_reducible refine Below.setCell ?_ ?_ _; rotate_left; · first | exact Nat.le_refl _ | omega | (simp; done) | (simp; omega)) | (with_reducible refine Below.alloc ?_ ?_ _; rotate_left; · first | exact Nat.le_refl _ | omega | (simp; done) | (simp; omega)) | with_reducible refine below_drewN ?_ _ | with_reducible refine Below.drew ?_))) (hb.mono (by simp <;> omega))
    have y0 : w1.cell? ⟨w.heap.size, 0, none⟩ = some (.string x.name) := cellB hb (by simp [go_sem])
    have y1 : w1.cell? ⟨w.heap.size, 1, none⟩ = some lv := cellB hb (by simp [go_sem])
    have hz1 : w.heap.size < w1.heap.size := by have := hb.size; simp at this; omega
    clear hb
    go_wp2
    go_ret2
    exact ⟨by rw [E.out]; rfl, hbw⟩

/-- The best shift and its cost, of the first k that are tried. -/
noncomputable def bsTo (x : TunD) (ns : List Int) : Nat → Int × Int
  | 0 => (0, arC x ns 0)
  | k + 1 => if arC x ns (shK k) < (bsTo x ns k).2 then (shK k, arC x ns (shK k)) else bsTo x ns k
theorem bs_yes {x : TunD} {ns : List Int} {k : Nat} (h : arC x ns (shK k) < (bsTo x ns k).2) : bsTo x ns (k + 1) = (shK k, arC x ns (shK k)) := by
  conv => lhs; unfold bsTo
  rw [if_pos h]
theorem bs_no {x : TunD} {ns : List Int} {k : Nat} (h : ¬ arC x ns (shK k) < (bsTo x ns k).2) : bsTo x ns (k + 1) = bsTo x ns k := by
  conv => lhs; unfold bsTo
  rw [if_neg h]
theorem bs_one (x : TunD) (ns : List Int) : bsTo x ns 1 = (0, arC x ns 0) := by
  rw [bs_no]
  · rfl
  · show ¬ arC x ns (shK 0) < arC x ns 0
    have : shK 0 = 0 := rfl
    rw [this]; omega
noncomputable def bsN (x : TunD) (ns : List Int) : Int := if askC x ns 0 = 0 then (bsTo x ns 49).1 else 0
noncomputable def bsL (x : TunD) (ns : List Int) : Int := if askC x ns 0 = 0 then (bsTo x ns 49).2 else 0

set_option maxHeartbeats 2000000 in
theorem specBestShift_any (v : Value) (x : TunD) (v2 : Value) (ns : List Int) (w : World) (h : RdTun w v x) (ok : x.ok) (_ : x.tones.length ≤ 1048576) (hn : RdInts w v2 ns) (_ : ∀ x ∈ ns, I64 x) (_ : ns.length ≤ 1048576) :
    Calls Try.prog 20 #[v, v2] w fun e w' => e = .returned (.tuple #[.int .i64 (bsN x ns), .int .i64 (bsL x ns), .int .i64 (askC x ns 0)]) ∧ Below w.heap.size w w' := by
  obtain ⟨lv, rfl, hlv⟩ := h
  have hn : Ints w v2 ns := hn
  obtain ⟨a1, cs1, rfl, _, _, _⟩ := id hn
  by_cases ga : askC x ns 0 = 0
  · have AV := Lib.hid (ask_zero.1 ga)
    have E := Lib.hid (show bsN x ns = (bsTo x ns 49).1 ∧ bsL x ns = (bsTo x ns 49).2 by unfold bsN bsL; rw [if_pos ga, if_pos ga]; exact ⟨rfl, rfl⟩)
    have d0 : (askC x ns 0 != 0) = false := by simpa using ga
    have A0 := Lib.hid ga; clear ga
    go_enter Try.func20, Try.ntmps20
    go_wp2_with fail
    refine (l26Ask_any _ lv _ x ns 0 _ ⟨by simp [go_sem], by simp [go_sem], hlv.mono (by (repeat (first | with_reducible exact Below.refl _ _ | with_reducible exact hbw | (with_reducible refine Below.setCell ?_ ?_ _; rotate_left; · first | exact Nat.le_refl _ | omega | (simp; done) | (simp; omega)) | (with_reducible refine Below.alloc ?_ ?_ _; rotate_left; · first | exact Nat.le_refl _ | omega | (simp; done) | (simp; omega)) | with_reducible refine below_drewN ?_ _ | with_reducible refine Below.drew ?_))), ok.1⟩ (Ints.mono hn (by (repeat (first | with_reducible exact Below.refl _ _ | with_reducible exact hbw | (with_reducible refine Below.setCell ?_ ?_ _; rotate_left; · first | exact Nat.le_refl _ | omega | (simp; done) | (simp; omega)) | (with_reducible refine Below.alloc ?_ ?_ _; rotate_left; · first | exact Nat.le_refl _ | omega | (simp; done) | (simp; omega)) | with_reducible refine below_drewN ?_ _ | with_reducible refine Below.drew ?_))))).mono ?_
    rintro e w1 ⟨rfl, hb⟩
    have hbw : Below w.heap.size w w1 := Below.trans (by (repeat (first | with_reducible exact Below.refl _ _ | with_reducible exact hbw | (with_reducible refine Below.setCell ?_ ?_ _; rotate_left; · first | exact Nat.le_refl _ | omega | (simp; done) | (simp; omega)) | (with_reducible refine Below.alloc ?_ ?_ _; rotate_left; · first | exact Nat.le_refl _ | omega | (simp; done) | (simp; omega)) | with_reducible refine below_drewN ?_ _ | with_reducible refine Below.drew ?_))) (hb.mono (by simp <;> omega))
    have y0 : w1.cell? ⟨w.heap.size, 0, none⟩ = some (.string x.name) := cellB hb (by simp [go_sem])
    have y1 : w1.cell? ⟨w.heap.size, 1, none⟩ = some lv := cellB hb (by simp [go_sem])
    have hz1 : w.heap.size < w1.heap.size := by have := hb.size; simp at this; omega
    clear hb
    go_wp2_with fail
    refine (l26Cost_any _ lv _ x ns 0 _ ⟨y0, y1, hlv.mono hbw, ok.1⟩ (Ints.mono hn hbw) AV.out.1 (set_in AV.out.2.1) AV.out.2.2 _ rfl).mono ?_
    rintro e w2 ⟨rfl, h2⟩
    have hbw2 := hbw.trans (h2.mono hbw.size)
    have y0 := cellB h2 y0
    have y1 := cellB h2 y1
    have HB2 := Lib.hid hbw2
    have hzz := h2.size
    clear h2 hbw hbw2
    go_wp2_with fail
    go_loopw [8, 9, 10, 11] (fun b l i _ wr => ∃ k : Nat, 1 ≤ k ∧ k ≤ 49 ∧ i = .int .i64 (k : Int) ∧ b = .int .i64 (bsTo x ns k).1 ∧ l = .int .i64 (bsTo x ns k).2 ∧ Below w2.heap.size w2 wr) (fun _ _ i _ _ => 50 - (intOf i).toNat)
    case atStart => exact ⟨1, Nat.le_refl _, by omega, by go_num, by rw [bs_one], by rw [bs_one], Below.refl _ _⟩
    case round =>
      obtain ⟨k, hk1, hk, rfl, rfl, rfl, hb⟩ := hrel
      have hbw := HB2.out.trans (hb.mono HB2.out.size)
      have y0 := cellB hb y0
      have y1 := cellB hb y1
      have hz := hb.size
      have lw : w.heap.size < wr.heap.size := by omega
      by_cases hlt : k ≤ 48
      · have dk : decide ((k : Int) ≤ 48) = true := by simp; omega
        have HW := Lib.hid hbw; clear hbw
        go_wp2_with fail
        refine (l26Order_any k _ hlt).mono ?_
        rintro e w3 ⟨rfl, hw3⟩
        subst w3
        obtain ⟨cst, hcst⟩ : ∃ cst, cst = arC x ns (shK k) := ⟨_, rfl⟩
        have HCST := Lib.hid hcst
        clear hcst
        go_wp2_with fail
        refine (l26Cost_any _ lv _ x ns (shK k) _ ⟨y0, y1, hlv.mono HW.out, ok.1⟩ (Ints.mono hn HW.out) AV.out.1 (set_in AV.out.2.1) (shK_bd hlt) cst HCST.out).mono ?_
        rintro e w4 ⟨rfl, h4⟩
        have hb4 := hb.trans (h4.mono hz)
        by_cases g : cst < (bsTo x ns k).2
        · have d1 : decide (cst < (bsTo x ns k).2) = true := by simpa using g
          have S := Lib.hid (bs_yes (x := x) (ns := ns) (k := k) (by rw [← HCST.out]; exact g))
          clear g
          go_wp2_with fail
          refine (l26Order_any k _ hlt).mono ?_
          rintro e w5 ⟨rfl, hw5⟩
          subst w5
          go_wp2
          go_roundw
          case rel => exact ⟨k + 1, by omega, by omega, by go_num, by rw [S.out], by rw [S.out, HCST.out], hb4⟩
          case measure => simp [intOf] <;> omega
        · have d1 : decide (cst < (bsTo x ns k).2) = false := by simpa using g
          have S := Lib.hid (bs_no (x := x) (ns := ns) (k := k) (by rw [← HCST.out]; exact g))
          clear g
          go_wp2
          go_roundw
          case rel => exact ⟨k + 1, by omega, by omega, by go_num, by rw [S.out], by rw [S.out], hb4⟩
          case measure => simp [intOf] <;> omega
      · obtain rfl : k = 49 := by omega
        go_wp2
        go_ret3
        exact ⟨by rw [E.out.1, E.out.2, A0.out]; rfl, hbw⟩
  · have E := Lib.hid (show bsN x ns = 0 ∧ bsL x ns = 0 by unfold bsN bsL; rw [if_neg ga, if_neg ga]; exact ⟨rfl, rfl⟩)
    have d0 : (askC x ns 0 != 0) = true := by simpa using ga
    clear ga
    go_enter Try.func20, Try.ntmps20
    go_wp2_with fail
    refine (l26Ask_any _ lv _ x ns 0 _ ⟨by simp [go_sem], by simp [go_sem], hlv.mono (by (repeat (first | with_reducible exact Below.refl _ _ | with_reducible exact hbw | (with_reducible refine Below.setCell ?_ ?_ _; rotate_left; · first | exact Nat.le_refl _ | omega | (simp; done) | (simp; omega)) | (with_reducible refine Below.alloc ?_ ?_ _; rotate_left; · first | exact Nat.le_refl _ | omega | (simp; done) | (simp; omega)) | with_reducible refine below_drewN ?_ _ | with_reducible refine Below.drew ?_))), ok.1⟩ (Ints.mono hn (by (repeat (first | with_reducible exact Below.refl _ _ | with_reducible exact hbw | (with_reducible refine Below.setCell ?_ ?_ _; rotate_left; · first | exact Nat.le_refl _ | omega | (simp; done) | (simp; omega)) | (with_reducible refine Below.alloc ?_ ?_ _; rotate_left; · first | exact Nat.le_refl _ | omega | (simp; done) | (simp; omega)) | with_reducible refine below_drewN ?_ _ | with_reducible refine Below.drew ?_))))).mono ?_
    rintro e w1 ⟨rfl, hb⟩
    have hbw : Below w.heap.size w w1 := Below.trans (by (repeat (first | with_reducible exact Below.refl _ _ | with_reducible exact hbw | (with_reducible refine Below.setCell ?_ ?_ _; rotate_left; · first | exact Nat.le_refl _ | omega | (simp; done) | (simp; omega)) | (with_reducible refine Below.alloc ?_ ?_ _; rotate_left; · first | exact Nat.le_refl _ | omega | (simp; done) | (simp; omega)) | with_reducible refine below_drewN ?_ _ | with_reducible refine Below.drew ?_))) (hb.mono (by simp <;> omega))
    have y0 : w1.cell? ⟨w.heap.size, 0, none⟩ = some (.string x.name) := cellB hb (by simp [go_sem])
    have y1 : w1.cell? ⟨w.heap.size, 1, none⟩ = some lv := cellB hb (by simp [go_sem])
    have hz1 : w.heap.size < w1.heap.size := by have := hb.size; simp at this; omega
    clear hb
    go_wp2
    go_ret3
    exact ⟨by rw [E.out.1, E.out.2]; rfl, hbw⟩

set_option maxHeartbeats 2000000 in
theorem implBestShift_any (v : Value) (x : TunD) (v2 : Value) (ns : List Int) (w : World) (h : RdTun w v x) (ok : x.ok) (_ : x.tones.length ≤ 1048576) (hn : RdInts w v2 ns) (_ : ∀ x ∈ ns, I64 x) (_ : ns.length ≤ 1048576) :
    Calls Try.prog 21 #[v, v2] w fun e w' => e = .returned (.tuple #[.int .i64 (bsN x ns), .int .i64 (bsL x ns), .int .i64 (askC x ns 0)]) ∧ Below w.heap.size w w' := by
  obtain ⟨lv, rfl, hlv⟩ := h
  have hn : Ints w v2 ns := hn
  obtain ⟨a1, cs1, rfl, _, _, _⟩ := id hn
  by_cases ga : askC x ns 0 = 0
  · have AV := Lib.hid (ask_zero.1 ga)
    have E := Lib.hid (show bsN x ns = (bsTo x ns 49).1 ∧ bsL x ns = (bsTo x ns 49).2 by unfold bsN bsL; rw [if_pos ga, if_pos ga]; exact ⟨rfl, rfl⟩)
    have d0 : (askC x ns 0 != 0) = false := by simpa using ga
    have A0 := Lib.hid ga; clear ga
    go_enter Try.func21, Try.ntmps21
    go_wp2_with fail
    refine (arranged_any _ lv _ x ns 0 _ ⟨rfl, hlv.mono (by (repeat (first | with_reducible exact Below.refl _ _ | with_reducible exact hbw | (with_reducible refine Below.setCell ?_ ?_ _; rotate_left; · first | exact Nat.le_refl _ | omega | (simp; done) | (simp; omega)) | (with_reducible refine Below.alloc ?_ ?_ _; rotate_left; · first | exact Nat.le_refl _ | omega | (simp; done) | (simp; omega)) | with_reducible refine below_drewN ?_ _ | with_reducible refine Below.drew ?_)))⟩ ok.1 (Ints.mono hn (by (repeat (first | with_reducible exact Below.refl _ _ | with_reducible exact hbw | (with_reducible refine Below.setCell ?_ ?_ _; rotate_left; · first | exact Nat.le_refl _ | omega | (simp; done) | (simp; omega)) | (with_reducible refine Below.alloc ?_ ?_ _; rotate_left; · first | exact Nat.le_refl _ | omega | (simp; done) | (simp; omega)) | with_reducible refine below_drewN ?_ _ | with_reducible refine Below.drew ?_))))).mono ?_
    rintro e w1 ⟨rfl, hb⟩
    have hbw : Below w.heap.size w w1 := Below.trans (by (repeat (first | with_reducible exact Below.refl _ _ | with_reducible exact hbw | (with_reducible refine Below.setCell ?_ ?_ _; rotate_left; · first | exact Nat.le_refl _ | omega | (simp; done) | (simp; omega)) | (with_reducible refine Below.alloc ?_ ?_ _; rotate_left; · first | exact Nat.le_refl _ | omega | (simp; done) | (simp; omega)) | with_reducible refine below_drewN ?_ _ | with_reducible refine Below.drew ?_))) (hb.mono (by simp <;> omega))
    have y0 : w1.cell? ⟨w.heap.size, 0, none⟩ = some (.string x.name) := cellB hb (by simp [go_sem])
    have y1 : w1.cell? ⟨w.heap.size, 1, none⟩ = some lv := cellB hb (by simp [go_sem])
    have hz1 : w.heap.size < w1.heap.size := by have := hb.size; simp at this; omega
    clear hb
    go_wp2_with fail
    refine (arrangeCost_any _ lv _ x ns 0 _ ⟨rfl, hlv.mono hbw⟩ (Ints.mono hn hbw) AV.out.1 (set_in AV.out.2.1) AV.out.2.2 ok.1 _ rfl).mono ?_
    rintro e w2 ⟨rfl, h2⟩
    have hbw2 := hbw.trans (h2.mono hbw.size)
    have y0 := cellB h2 y0
    have y1 := cellB h2 y1
    have HB2 := Lib.hid hbw2
    have hzz := h2.size
    clear h2 hbw hbw2
    go_wp2_with fail
    refine (shifts_any _).mono ?_
    rintro e w3 ⟨vL, rfl, hoL, hbL⟩
    have HB3 := Lib.hid (HB2.out.trans (hbL.mono HB2.out.size))
    have hL : Sl w3 vL 49 ((shL 49).map (Value.int .i64)) := Sl.of_owns hoL
    obtain ⟨b9, c9, rfl, _, _, _⟩ := id hL
    have y0 := cellB hbL y0
    have y1 := cellB hbL y1
    have hzL := hbL.size
    clear hoL hbL
    go_wp2_with fail
    go_loopw [8, 9, 24, 11, 12] (fun b l i _ _ wr => ∃ k : Nat, k ≤ 49 ∧ i = .int .i64 (k : Int) ∧ b = .int .i64 (bsTo x ns k).1 ∧ l = .int .i64 (bsTo x ns k).2 ∧ Below w3.heap.size w3 wr) (fun _ _ i _ _ _ => 49 - (intOf i).toNat)
    case atStart => exact ⟨0, by omega, by go_num, rfl, rfl, Below.refl _ _⟩
    case round =>
      obtain ⟨k, hk, rfl, rfl, rfl, hb⟩ := hrel
      have hbw := HB3.out.trans (hb.mono HB3.out.size)
      have y0 := cellB hb y0
      have y1 := cellB hb y1
      have hz := hb.size
      have lw : w.heap.size < wr.heap.size := by omega
      by_cases hlt : k ≤ 48
      · have dk : decide ((k : Int) < 49) = true := by simp; omega
        have HW := Lib.hid hbw; clear hbw
        obtain ⟨p, o, rfl, c9⟩ := (hL.mono hb).cells (by simp [shL_len])
        have hp : wr.cell? ⟨p, o + k, none⟩ = some (.int .i64 (shK k)) := c9 k _ (by rw [List.getElem?_map, List.getElem?_eq_getElem (by rw [shL_len]; omega), shL_get]; rfl)
        have lp := World.block_lt_of_cell? _ _ hp
        simp only at lp
        obtain ⟨cst, hcst⟩ : ∃ cst, cst = arC x ns (shK k) := ⟨_, rfl⟩
        have HCST := Lib.hid hcst
        clear hcst c9
        by_cases g : cst < (bsTo x ns k).2
        · have d1 : decide (cst < (bsTo x ns k).2) = true := by simpa using g
          have S := Lib.hid (bs_yes (x := x) (ns := ns) (k := k) (by rw [← HCST.out]; exact g))
          clear g
          go_wp2_with fail
          refine (arrangeCost_any _ lv _ x ns (shK k) _ ⟨rfl, hlv.mono HW.out⟩ (Ints.mono hn HW.out) AV.out.1 (set_in AV.out.2.1) (shK_bd hlt) ok.1 cst HCST.out).mono ?_
          rintro e w4 ⟨rfl, h4⟩
          have hb4 := hb.trans (h4.mono hz)
          go_wp2
          go_roundw
          case rel => exact ⟨k + 1, by omega, by go_num, by rw [S.out], by rw [S.out, HCST.out], hb4⟩
          case measure => simp [intOf] <;> omega
        · have d1 : decide (cst < (bsTo x ns k).2) = false := by simpa using g
          have S := Lib.hid (bs_no (x := x) (ns := ns) (k := k) (by rw [← HCST.out]; exact g))
          clear g
          go_wp2_with fail
          refine (arrangeCost_any _ lv _ x ns (shK k) _ ⟨rfl, hlv.mono HW.out⟩ (Ints.mono hn HW.out) AV.out.1 (set_in AV.out.2.1) (shK_bd hlt) ok.1 cst HCST.out).mono ?_
          rintro e w4 ⟨rfl, h4⟩
          have hb4 := hb.trans (h4.mono hz)
          go_wp2
          go_roundw
          case rel => exact ⟨k + 1, by omega, by go_num, by rw [S.out], by rw [S.out], hb4⟩
          case measure => simp [intOf] <;> omega
      · obtain rfl : k = 49 := by omega
        go_wp2
        go_ret3
        exact ⟨by rw [E.out.1, E.out.2, A0.out]; rfl, hbw⟩
  · have E := Lib.hid (show bsN x ns = 0 ∧ bsL x ns = 0 by unfold bsN bsL; rw [if_neg ga, if_neg ga]; exact ⟨rfl, rfl⟩)
    have d0 : (askC x ns 0 != 0) = true := by simpa using ga
    clear ga
    go_enter Try.func21, Try.ntmps21
    go_wp2_with fail
    refine (arranged_any _ lv _ x ns 0 _ ⟨rfl, hlv.mono (by (repeat (first | with_reducible exact Below.refl _ _ | with_reducible exact hbw | (with_reducible refine Below.setCell ?_ ?_ _; rotate_left; · first | exact Nat.le_refl _ | omega | (simp; done) | (simp; omega)) | (with_reducible refine Below.alloc ?_ ?_ _; rotate_left; · first | exact Nat.le_refl _ | omega | (simp; done) | (simp; omega)) | with_reducible refine below_drewN ?_ _ | with_reducible refine Below.drew ?_)))⟩ ok.1 (Ints.mono hn (by (repeat (first | with_reducible exact Below.refl _ _ | with_reducible exact hbw | (with_reducible refine Below.setCell ?_ ?_ _; rotate_left; · first | exact Nat.le_refl _ | omega | (simp; done) | (simp; omega)) | (with_reducible refine Below.alloc ?_ ?_ _; rotate_left; · first | exact Nat.le_refl _ | omega | (simp; done) | (simp; omega)) | with_reducible refine below_drewN ?_ _ | with_reducible refine Below.drew ?_))))).mono ?_
    rintro e w1 ⟨rfl, hb⟩
    have hbw : Below w.heap.size w w1 := Below.trans (by (repeat (first | with_reducible exact Below.refl _ _ | with_reducible exact hbw | (with_reducible refine Below.setCell ?_ ?_ _; rotate_left; · first | exact Nat.le_refl _ | omega | (simp; done) | (simp; omega)) | (with_reducible refine Below.alloc ?_ ?_ _; rotate_left; · first | exact Nat.le_refl _ | omega | (simp; done) | (simp; omega)) | with_reducible refine below_drewN ?_ _ | with_reducible refine Below.drew ?_))) (hb.mono (by simp <;> omega))
    have y0 : w1.cell? ⟨w.heap.size, 0, none⟩ = some (.string x.name) := cellB hb (by simp [go_sem])
    have y1 : w1.cell? ⟨w.heap.size, 1, none⟩ = some lv := cellB hb (by simp [go_sem])
    have hz1 : w.heap.size < w1.heap.size := by have := hb.size; simp at this; omega
    clear hb
    go_wp2
    go_ret3
    exact ⟨by rw [E.out.1, E.out.2]; rfl, hbw⟩

end Go.Proofs.Ytemmnjokojgjaaa
/- Contract of notesOf with the function that extraNotes hands it. -/
set_option linter.unusedSimpArgs false
set_option linter.unnecessarySimpa false
set_option linter.unusedVariables false
set_option maxRecDepth 100000
namespace Go.Proofs.Ytemmnjokojgjaaa
open Go.RowKit

/-- The notes of the tones with a property. -/
def sel (p : Ton → Bool) (ts : List Ton) : List Int := (ts.filter p).map Ton.note
theorem sel_zero (p : Ton → Bool) (ts : List Ton) : sel p (ts.take 0) = [] := rfl
theorem sel_yes {p : Ton → Bool} {ts : List Ton} {k : Nat} (h : k < ts.length) (hp : p ts[k] = true) : sel p (ts.take (k + 1)) = sel p (ts.take k) ++ [ts[k].note] := by
  unfold sel; rw [List.take_succ_eq_append_getElem h, List.filter_append, List.map_append]; simp [hp]
theorem sel_no {p : Ton → Bool} {ts : List Ton} {k : Nat} (h : k < ts.length) (hp : p ts[k] = false) : sel p (ts.take (k + 1)) = sel p (ts.take k) := by
  unfold sel; rw [List.take_succ_eq_append_getElem h, List.filter_append, List.map_append]; simp [hp]
theorem sel_len (p : Ton → Bool) (ts : List Ton) (k : Nat) : (sel p (ts.take k)).length ≤ k := by
  unfold sel; rw [List.length_map]; exact Nat.le_trans (List.length_filter_le _ _) (List.length_take_le _ _)
theorem sel_all (p : Ton → Bool) (ts : List Ton) {k : Nat} (h : ts.length ≤ k) : sel p (ts.take k) = sel p ts := by rw [List.take_of_length_le h]
theorem notesOfL_snoc (ns : List Int) (n : Int) : notesOfL (ns ++ [n]) = putI (notesOfL ns) n := by unfold notesOfL; rw [List.foldl_append]; rfl

def allT : Ton → Bool := fun _ => true
theorem allT_any (x : Ton) (w : World) :
    Calls Try.prog 92 #[.agg #[.int .i64 x.note, .int .i64 x.start, .int .i64 x.len]] w fun e w' => e = .returned (.bool true) ∧ Below w.heap.size w w' := by
  go_enter Try.func92, Try.ntmps92
  go_wp2
  go_ret
  refine ⟨rfl, ?_⟩
  (repeat (first | with_reducible exact Below.refl _ _ | with_reducible exact hbw | (with_reducible refine Below.setCell ?_ ?_ _; rotate_left; · first | exact Nat.le_refl _ | omega | (simp; done) | (simp; omega)) | (with_reducible refine Below.alloc ?_ ?_ _; rotate_left; · first | exact Nat.le_refl _ | omega | (simp; done) | (simp; omega)) | with_reducible refine below_drewN ?_ _ | with_reducible refine Below.drew ?_))
set_option maxHeartbeats 2000000 in
theorem notesAll_any (v lv : Value) (x : TunD) (w : World) (h : Tun w v lv x) (hs : x.tones.length ≤ 1048576) :
    Calls Try.prog 91 #[v, .func (.func 92) #[] #[]] w fun e w' => ∃ v', e = .returned v' ∧ OwnInts w.heap.size w'.heap.size w' v' (notesOfL (sel allT x.tones)) ∧ Below w.heap.size w w' := by
  obtain ⟨rfl, hlv⟩ := h
  obtain ⟨a, ca, rfl, hca, hcm, _⟩ := id hlv
  have hm : x.tones.length ≤ maxLen := by omega
  clear hca hcm
  unfold maxLen at hm
  go_enter Try.func91, Try.ntmps91
  go_wp2_with fail
  go_loopw [5, 11, 7, 17] (fun o i _ _ wr => ∃ (k : Nat) (a' : Option Addr) (c' : Nat), k ≤ x.tones.length ∧ i = .int .i64 k ∧ o = .slice a' (sel allT (x.tones.take k)).length c' ∧ wr.ownsRow w.heap.size 2 1 (.slice a' (sel allT (x.tones.take k)).length c') (sel allT (x.tones.take k)).length ((sel allT (x.tones.take k)).map (Value.int .i64)) ∧ Below w.heap.size w wr) (fun _ i _ _ _ => x.tones.length - (intOf i).toNat)
  case atStart => exact ⟨0, none, 0, Nat.zero_le _, rfl, rfl, owns_nil _ _ _ _, by (repeat (first | with_reducible exact Below.refl _ _ | with_reducible exact hbw | (with_reducible refine Below.setCell ?_ ?_ _; rotate_left; · first | exact Nat.le_refl _ | omega | (simp; done) | (simp; omega)) | (with_reducible refine Below.alloc ?_ ?_ _; rotate_left; · first | exact Nat.le_refl _ | omega | (simp; done) | (simp; omega)) | with_reducible refine below_drewN ?_ _ | with_reducible refine Below.drew ?_))⟩
  case round =>
    obtain ⟨k, a1, c1, hk, rfl, rfl, ho, hb⟩ := hrel
    by_cases hlt : k < x.tones.length
    · obtain ⟨b1, o1, rfl, hB1, u0, u1, u2⟩ := (hlv.mono hb).at hlt
      have l1 : b1 < wr.heap.size + 1 := by omega
      have S := Lib.hid (sel_yes (p := allT) hlt rfl)
      have hsl := sel_len allT x.tones k
      have hsz := hb.size
      go_wp2_with fail
      refine (allT_any x.tones[k] _).mono ?_
      rintro e w1 ⟨rfl, hb1⟩
      have y0 : w1.cell? ⟨wr.heap.size, 0, none⟩ = some (.int .i64 x.tones[k].note) := cellB hb1 (by simp [go_sem])
      have hz1 := World.block_lt_of_cell? _ _ y0
      simp only at hz1
      have hz2 : wr.heap.size < w1.heap.size + 1 := by omega
      have st : Below wr.heap.size wr w1 := Below.trans (by (repeat (first | with_reducible exact Below.refl _ _ | with_reducible exact hbw | (with_reducible refine Below.setCell ?_ ?_ _; rotate_left; · first | exact Nat.le_refl _ | omega | (simp; done) | (simp; omega)) | (with_reducible refine Below.alloc ?_ ?_ _; rotate_left; · first | exact Nat.le_refl _ | omega | (simp; done) | (simp; omega)) | with_reducible refine below_drewN ?_ _ | with_reducible refine Below.drew ?_))) (hb1.mono (by simp))
      have ho2 := owns_mono ho st
      have hb2 := hb.trans (st.mono hsz)
      have hsz2 := hb2.size
      clear hb1
      go_wp2_with (at_builtin; refine append_one rfl _ _ 25 rfl w.heap.size 2 (.int .i64 0) 1 8 Try.underlying25 info_int64 rfl (by decide) _ (sel allT (x.tones.take k)).length _ rfl ho2 [.int .i64 x.tones[k].note] rfl (by simp [Value.oneCell']) rfl (by omega) (by decide) hsz2 ?_)
      intro a' cap' w3 ho3 _ hb3
      go_wp2
      go_roundw
      case rel => exact ⟨k + 1, a', cap', by omega, by go_num, by rw [S.out]; simp, by rw [S.out]; simpa using ho3, hb2.trans hb3⟩
      case measure => simp [intOf] <;> omega
    · have E := Lib.hid (sel_all allT x.tones (show x.tones.length ≤ k by omega))
      rw [E.out] at ho
      have hsl := sel_len allT x.tones x.tones.length
      rw [sel_all _ _ (Nat.le_refl _)] at hsl
      obtain ⟨ns, hns⟩ : ∃ ns, ns = sel allT x.tones := ⟨_, rfl⟩
      rw [E.out]
      rw [← hns] at ho hsl ⊢
      clear E
      have HN := Lib.hid hns; clear hns
      have hsz := hb.size
      go_wp2_with fail
      refine (sortInts_any _ w.heap.size ns _ ho (by omega)).mono ?_
      rintro e w2 ⟨rfl, ho2, hg2⟩
      have hb2 : Below w.heap.size w w2 := hb.grown hg2 hsz (fun q hq => (ho.lt q hq).1)
      have hsz2 := hb2.size
      clear ho hg2
      go_wp2_with fail
      refine (compactInts_any _ w.heap.size ns.length (sortI ns) _ (sortI_len ns).symm ho2 (by rw [sortI_len]; omega)).mono ?_
      rintro e w3 ⟨v3, rfl, ho3, hg3, _⟩
      have hb3 : Below w.heap.size w w3 := hb2.grown hg3 hsz2 (fun q hq => (ho2.lt q hq).1)
      rw [notesOfL_eq, HN.out] at ho3
      go_wp2
      go_ret
      exact ⟨_, rfl, OwnRow.mk' ho3, hb3⟩

end Go.Proofs.Ytemmnjokojgjaaa
/- Extra notes: plain. -/
set_option linter.unusedSimpArgs false
set_option linter.unnecessarySimpa false
set_option linter.unusedVariables false
namespace Go.Proofs.Ytemmnjokojgjaaa
open Go.RowKit

/-- Shifted notes that are not among the bells. -/
def exL (ns : List Int) (b : Int) (zs : List Int) : List Int := (zs.map (· + b)).filter fun x => decide (x ∉ ns)
def okZ (b z : Int) : Prop := 0 ≤ z + b ∧ z + b ≤ 127
def okZs (b : Int) (zs : List Int) : Prop := ∀ z ∈ zs, okZ b z
theorem exL_zero (ns : List Int) (b : Int) (zs : List Int) : exL ns b (zs.take 0) = [] := rfl
theorem exL_in {ns : List Int} {b : Int} {zs : List Int} {k : Nat} (h : k < zs.length) (hp : zs[k] + b ∈ ns) : exL ns b (zs.take (k + 1)) = exL ns b (zs.take k) := by
  unfold exL; rw [List.take_succ_eq_append_getElem h, List.map_append, List.filter_append]; simp [hp]
theorem exL_out {ns : List Int} {b : Int} {zs : List Int} {k : Nat} (h : k < zs.length) (hp : ¬ zs[k] + b ∈ ns) : exL ns b (zs.take (k + 1)) = exL ns b (zs.take k) ++ [zs[k] + b] := by
  unfold exL; rw [List.take_succ_eq_append_getElem h, List.map_append, List.filter_append]; simp [hp]
theorem exL_len (ns : List Int) (b : Int) (zs : List Int) : (exL ns b zs).length ≤ zs.length := by
  unfold exL; exact Nat.le_trans (List.length_filter_le _ _) (by simp)
theorem okZs_zero (b : Int) (zs : List Int) : okZs b (zs.take 0) := by intro z hz; simp at hz
theorem okZs_step {b : Int} {zs : List Int} {k : Nat} (h : k < zs.length) (h1 : okZs b (zs.take k)) (h2 : okZ b zs[k]) : okZs b (zs.take (k + 1)) := by
  intro z hz
  rw [List.take_succ_eq_append_getElem h, List.mem_append, List.mem_singleton] at hz
  rcases hz with hz | rfl
  · exact h1 z hz
  · exact h2
theorem okZs_not {b : Int} {zs : List Int} {k : Nat} (h : k < zs.length) (h2 : ¬ okZ b zs[k]) : ¬ okZs b zs := fun h1 => h2 (h1 _ (List.getElem_mem h))
theorem okZs_all {b : Int} {zs : List Int} {k : Nat} (h : zs.length ≤ k) (h1 : okZs b (zs.take k)) : okZs b zs := by rwa [List.take_of_length_le h] at h1
/-- Each once first, or each once last: the same. -/
theorem exL_notes (ns : List Int) (b : Int) (zs : List Int) : exL ns b (notesOfL zs) = notesOfL (exL ns b zs) := by
  refine strict_ext _ _ ?_ (notesOfL_strict _) fun x => ?_
  · unfold exL Strict
    refine List.Pairwise.filter _ (List.pairwise_map.2 ?_)
    exact (notesOfL_strict zs).imp (by intro a c h; omega)
  · rw [notesOfL_mem]; simp [exL, notesOfL_mem]
theorem okZs_notes (b : Int) (zs : List Int) : okZs b (notesOfL zs) ↔ okZs b zs := by unfold okZs; simp [notesOfL_mem]
theorem validSet_in {ns : List Int} (h : validSet ns = true) {x : Int} (hx : x ∈ ns) : 0 ≤ x ∧ x ≤ 127 := by
  unfold validSet at h
  simp only [Bool.and_eq_true, decide_eq_true_eq] at h
  obtain ⟨j, hj, rfl⟩ := List.getElem_of_mem hx
  have := h.2 j hj
  unfold RiseAt at this
  have e : ns.getD j 0 = ns[j] := by simp [hj]
  rw [e] at this
  exact ⟨this.1, this.2.1⟩
open Classical in
noncomputable def exV (ns : List Int) (b : Int) (zs : List Int) : List Int := if okZs b zs then notesOfL (exL ns b zs) else []
open Classical in
noncomputable def exB (b : Int) (zs : List Int) : Bool := decide (okZs b zs)
theorem exV_yes {ns : List Int} {b : Int} {zs : List Int} (h : okZs b zs) : exV ns b zs = notesOfL (exL ns b zs) := by unfold exV; rw [if_pos h]
theorem exV_no {ns : List Int} {b : Int} {zs : List Int} (h : ¬ okZs b zs) : exV ns b zs = [] := by unfold exV; rw [if_neg h]
theorem exB_yes {b : Int} {zs : List Int} (h : okZs b zs) : exB b zs = true := by unfold exB; simpa using h
theorem exB_no {b : Int} {zs : List Int} (h : ¬ okZs b zs) : exB b zs = false := by unfold exB; simpa using h
theorem exV_len (ns : List Int) (b : Int) (zs : List Int) : (exV ns b zs).length ≤ zs.length := by
  by_cases h : okZs b zs
  · rw [exV_yes h]; exact Nat.le_trans (notesOfL_len _) (exL_len _ _ _)
  · rw [exV_no h]; simp

end Go.Proofs.Ytemmnjokojgjaaa
