import Derived.Test.YtemmnjokojgjaaaFaZ9
import Derived.Test.YtemmnjokojgjaaaFaZ12
import Derived.Test.YtemmnjokojgjaaaFaZ11
import Derived.Test.YtemmnjokojgjaaaFaZ3
import Derived.Test.YtemmnjokojgjaaaFaZ5
/- Contract of impl.arrange. -/
set_option linter.unusedSimpArgs false
set_option linter.unnecessarySimpa false
set_option linter.unusedVariables false
set_option maxRecDepth 100000
namespace Go.Proofs.Ytemmnjokojgjaaa
open Go.RowKit

theorem info_bool : (Try.prog.info? 4).map (fun i => (i.zero, i.size, i.bytes)) = some (some (.bool false), 1, 1) := by kernel_rfl

/-- Two rows of the call's own, apart: n tones, and n yes or no. -/
structure Kept (w : World) (B : Nat) (v1 v2 : Value) (n : Nat) (s : List Ton × List Bool) : Prop where
  len1 : s.1.length = n
  len2 : s.2.length = n
  r1 : w.ownsRow B 92 3 v1 n (s.1.flatMap Ton.cells)
  r2 : w.ownsRow B 4 1 v2 n (s.2.map Value.bool)
  ap : Apt v1 v2
theorem Kept.mono {w w' : World} {B n : Nat} {v1 v2 : Value} {s : List Ton × List Bool} (h : Kept w B v1 v2 n s) (hb : Below w.heap.size w w') : Kept w' B v1 v2 n s := ⟨h.len1, h.len2, owns_mono h.r1 hb, owns_mono h.r2 hb, h.ap⟩
theorem Kept.tons {w : World} {B n c1 : Nat} {a1 : Option Addr} {v2 : Value} {s : List Ton × List Bool} (h : Kept w B (.slice a1 n c1) v2 n s) : Tons w (.slice a1 n c1) s.1 := by
  have := Tons.of_owns (xs := s.1) (by rw [h.len1]; exact h.r1)
  exact this
theorem Kept.at {w : World} {B n c1 c2 k : Nat} {a1 a2 : Option Addr} {s : List Ton × List Bool} (h : Kept w B (.slice a1 n c1) (.slice a2 n c2) n s) (hk : k < n) :
    ∃ g1 g2, a1 = some ⟨g1, 0, none⟩ ∧ a2 = some ⟨g2, 0, none⟩ ∧ g1 ≠ g2 ∧ B ≤ g1 ∧ B ≤ g2 ∧ g1 < w.heap.size ∧ g2 < w.heap.size ∧ (∃ hk1 : k < s.1.length, w.cell? ⟨g1, k * 3, none⟩ = some (.int .i64 s.1[k].note) ∧ w.cell? ⟨g1, k * 3 + 1, none⟩ = some (.int .i64 s.1[k].start) ∧ w.cell? ⟨g1, k * 3 + 2, none⟩ = some (.int .i64 s.1[k].len)) ∧
      w.cell? ⟨g2, k, none⟩ = some (.bool (s.2.getD k false)) ∧ (∀ o, w.frozen? ⟨g1, o, none⟩ = false) ∧ (∀ o, w.frozen? ⟨g2, o, none⟩ = false) ∧
      ∀ (x : Ton) (m : Bool), Kept ((((w.setCell ⟨g1, k * 3, none⟩ (.int .i64 x.note)).setCell ⟨g1, k * 3 + 1, none⟩ (.int .i64 x.start)).setCell ⟨g1, k * 3 + 2, none⟩ (.int .i64 x.len)).setCell ⟨g2, k, none⟩ (.bool m)) B (.slice (some ⟨g1, 0, none⟩) n c1) (.slice (some ⟨g2, 0, none⟩) n c2) n (s.1.set k x, s.2.set k m) := by
  obtain ⟨l1, l2, r1, r2, ap⟩ := h
  obtain ⟨g1, rfl⟩ : ∃ g, a1 = some ⟨g, 0, none⟩ := by
    rcases r1.2 with ⟨e, h0⟩ | ⟨g, cap, cur, e, _⟩
    · omega
    · simp only [Value.slice.injEq] at e; exact ⟨g, e.1⟩
  obtain ⟨g2, rfl⟩ : ∃ g, a2 = some ⟨g, 0, none⟩ := by
    rcases r2.2 with ⟨e, h0⟩ | ⟨g, cap, cur, e, _⟩
    · omega
    · simp only [Value.slice.injEq] at e; exact ⟨g, e.1⟩
  have hne : g1 ≠ g2 := by
    rcases ap with h | h | h
    · simp [Value.ownBlock] at h
    · simp [Value.ownBlock] at h
    · exact fun e => h (by simp [Value.ownBlock, e])
  have hT : TR w B g1 n c1 s.1 := ⟨l1, r1⟩
  have hk1 : k < s.1.length := by omega
  refine ⟨g1, g2, rfl, rfl, hne, (r1.lt g1 rfl).1, (r2.lt g2 rfl).1, (r1.lt g1 rfl).2, (r2.lt g2 rfl).2, ⟨hk1, hT.at hk1⟩, ?_, fun o => r1.frozenAt o, fun o => r2.frozenAt o, fun x m => ?_⟩
  · rw [r2.cellAt _ (by first | omega | (simp; omega))]; simp [show k < s.2.length by omega]
  · have s1 := hT.set hk1 x
    have k2 := World.ownsRow.kept r2 s1.2 (.inr (by simp only [Value.ownBlock]; intro e; exact hne (Option.some.inj e).symm))
    have s2 := k2.stored k (.bool m)
    have k1 := World.ownsRow.kept s1.1.2 s2.2 (.inr (by simp only [Value.ownBlock]; intro e; exact hne (Option.some.inj e)))
    exact ⟨by simp [l1], by simp [l2], k1, by rw [List.map_set]; exact s2.1, ap⟩

theorem enters_arr (args : Array Value) (w : World) : Sem.run Try.prog (callFunc 79 args) w = .ok (.enter 79 args) w := by
  first | rfl | (simp [callFunc, go_sem]; done) | (go_simp; done)

set_option maxHeartbeats 1000000 in
theorem arr1_any (t y : Ton) (q : Nat) (w : World) (h0 : w.cell? ⟨q, 0, none⟩ = some (.int .i64 t.note)) (h1 : w.cell? ⟨q, 1, none⟩ = some (.int .i64 t.start)) :
    Calls Try.prog 79 #[.agg #[.int .i64 y.note, .int .i64 y.start, .int .i64 y.len], .pointer (some ⟨q, 0, none⟩)] w fun e w' => e = .returned (.bool (snB t y)) ∧ Below w.heap.size w w' := by
  have hl1 := World.block_lt_of_cell? w _ h0
  simp only at hl1
  have l1 : q < w.heap.size + 1 := by omega
  by_cases g1 : y.start = t.start
  · have d1 : (y.start == t.start) = true := by simpa using g1
    have E := Lib.hid (show (y.note == t.note) = snB t y by unfold snB; rw [decide_eq_true g1]; simp [Bool.beq_eq_decide_eq])
    clear g1
    go_enter Try.func79, Try.ntmps79
    go_wp2
    go_ret
    refine ⟨ret_bool E.out, ?_⟩
    (repeat (first | with_reducible exact Below.refl _ _ | with_reducible exact hbw | (with_reducible refine Below.setCell ?_ ?_ _; rotate_left; · first | exact Nat.le_refl _ | omega | (simp; done) | (simp; omega)) | (with_reducible refine Below.alloc ?_ ?_ _; rotate_left; · first | exact Nat.le_refl _ | omega | (simp; done) | (simp; omega)) | with_reducible refine below_drewN ?_ _ | with_reducible refine Below.drew ?_))
  · have d1 : (y.start == t.start) = false := by simpa using g1
    have E := Lib.hid (show false = snB t y by unfold snB; rw [decide_eq_false g1]; rfl)
    clear g1
    go_enter Try.func79, Try.ntmps79
    go_wp2
    go_ret
    refine ⟨ret_bool E.out, ?_⟩
    (repeat (first | with_reducible exact Below.refl _ _ | with_reducible exact hbw | (with_reducible refine Below.setCell ?_ ?_ _; rotate_left; · first | exact Nat.le_refl _ | omega | (simp; done) | (simp; omega)) | (with_reducible refine Below.alloc ?_ ?_ _; rotate_left; · first | exact Nat.le_refl _ | omega | (simp; done) | (simp; omega)) | with_reducible refine below_drewN ?_ _ | with_reducible refine Below.drew ?_))

theorem sizeT_any (a : Option Addr) (n c : Nat) (w : World) : Calls Try.prog 80 #[.slice a n c] w fun e w' => e = .returned (.int .i64 n) ∧ w' = w := by
  go_enter Try.func80, Try.ntmps80
  go_wp2
  go_ret
  exact ⟨rfl, rfl⟩

set_option maxHeartbeats 4000000 in
theorem arrange_any (vt lv v : Value) (x : TunD) (ns : List Int) (b : Int) (w : World) (h : Tun w vt lv x) (hn : Ints w v ns) (ok : validTunB x = true) (hset : SetIn ns) (hs : shiftIn b) (hnm : x.name.size ≤ maxLen) :
    Calls Try.prog 45 #[vt, v, .int .i64 b] w fun e w' => ∃ v', e = .returned (.tuple #[v', .int .i64 (mvCnt (arTo ns b x.tones x.tones.length).2 (arTo ns b x.tones x.tones.length).1.length), .int .i64 ((x.tones.length : Int) - (arTo ns b x.tones x.tones.length).1.length)]) ∧ OwnTun w.heap.size w'.heap.size w' v' (toV x.name (arTo ns b x.tones x.tones.length).1) ∧ Below w.heap.size w w' := by
  obtain ⟨rfl, hlv⟩ := h
  obtain ⟨a, ca, rfl, hca, hcm, _⟩ := id hlv
  obtain ⟨a9, c9, rfl, _, _, _⟩ := id hn
  clear hca hcm
  have hln := tun_len ok
  have OK := Lib.hid ok
  have HSET := Lib.hid hset
  have AOK := Lib.hid (fun k => ar_ok (b := b) hset (ts := x.tones) (fun y hy => by obtain ⟨k, hk, rfl⟩ := List.getElem_of_mem hy; exact tun_tone ok hk) k)
  obtain ⟨sb1, sb2⟩ := hs
  clear ok hset
  go_enter Try.func45, Try.ntmps45
  go_wp2_with fail
  obtain ⟨w2, hw2⟩ : ∃ w2 : World, w2 = (w.alloc (.cells #[.string x.name, .slice a x.tones.length ca] 29)).alloc (.cells #[.string ⟨#[]⟩, .slice none 0 0] 29) := ⟨_, rfl⟩
  rw [← hw2]
  have HB2 := Lib.hid (show Below w.heap.size w w2 by rw [hw2]; (repeat (first | with_reducible exact Below.refl _ _ | with_reducible exact hbw | (with_reducible refine Below.setCell ?_ ?_ _; rotate_left; · first | exact Nat.le_refl _ | omega | (simp; done) | (simp; omega)) | (with_reducible refine Below.alloc ?_ ?_ _; rotate_left; · first | exact Nat.le_refl _ | omega | (simp; done) | (simp; omega)) | with_reducible refine below_drewN ?_ _ | with_reducible refine Below.drew ?_)))
  have hz2 : w2.heap.size = w.heap.size + 2 := by rw [hw2]; simp
  have Z0 := Lib.hid (show w2.cell? ⟨w.heap.size, 0, none⟩ = some (.string x.name) by rw [hw2]; simp [go_sem])
  have Z1 := Lib.hid (show w2.cell? ⟨w.heap.size, 1, none⟩ = some (.slice a x.tones.length ca) by rw [hw2]; simp [go_sem])
  have R0 := Lib.hid (show w2.cell? ⟨w.heap.size + 1, 0, none⟩ = some (.string ⟨#[]⟩) by rw [hw2]; simp [go_sem])
  have R1 := Lib.hid (show w2.cell? ⟨w.heap.size + 1, 1, none⟩ = some (.slice none 0 0) by rw [hw2]; simp [go_sem])
  have F0 := Lib.hid (show w2.frozen? ⟨w.heap.size + 1, 0, none⟩ = false by rw [hw2]; simp [go_sem])
  have F1 := Lib.hid (show w2.frozen? ⟨w.heap.size + 1, 1, none⟩ = false by rw [hw2]; simp [go_sem])
  clear hw2
  have HZ2 := Lib.hid hz2
  have hz2' : w.heap.size + 1 < w2.heap.size := by omega
  clear hz2
  go_loopw [9, 10, 26, 12, 13, 14, 15, 16] (fun ts ms i _ _ _ _ _ wr => ∃ (k n : Nat) (a1 : Option Addr) (c1 : Nat) (a2 : Option Addr) (c2 : Nat), k ≤ x.tones.length ∧ i = .int .i64 (k : Int) ∧ ts = .slice a1 n c1 ∧ ms = .slice a2 n c2 ∧ n = (arTo ns b x.tones k).1.length ∧ Kept wr w2.heap.size (.slice a1 n c1) (.slice a2 n c2) n (arTo ns b x.tones k) ∧ Below w2.heap.size w2 wr) (fun _ _ i _ _ _ _ _ _ => x.tones.length - (intOf i).toNat)
  case atStart => exact ⟨0, 0, none, 0, none, 0, Nat.zero_le _, by go_num, rfl, rfl, rfl, ⟨rfl, rfl, by simpa [arTo] using owns_nil w2 92 3 _, by simpa [arTo] using owns_nil w2 4 1 _, .inl rfl⟩, Below.refl _ _⟩
  case round =>
    obtain ⟨k, n, a1, c1, a2, c2, hk, rfl, rfl, rfl, hnn, hK, hb⟩ := hrel
    have HK := Lib.hid hK; have HN := Lib.hid hnn; have HBr := Lib.hid hb
    have hzr := hb.size
    have hle := (AOK.out k).le
    rw [← hnn] at hle
    clear hK hnn
    by_cases hlt : k < x.tones.length
    · have hb0 := HB2.out.trans (hb.mono HB2.out.size)
      obtain ⟨b1, o1, rfl, hB1, t0, t1, t2⟩ := (hlv.mono hb0).at hlt
      have hok := tun_tone OK.out hlt
      obtain ⟨n1, n2⟩ := hok.noteIn
      have w1' : IntKind.i64.wrap (x.tones[k].note + b) = x.tones[k].note + b := IntWalk.i64_in _ (by omega)
      have HNI := Lib.hid (Ints.mono hn hb0)
      have HAT := Lib.hid (arTo_at (ns := ns) (b := b) hlt)
      obtain ⟨pl, hpl⟩ : ∃ pl, pl = placeV ns (x.tones[k].note + b) := ⟨_, rfl⟩
      have HPL := Lib.hid hpl
      have HLV := Lib.hid hlv
      clear hb hb0 hok
      by_cases gp : pl < 0
      · have d1 : decide (pl < 0) = true := by simpa using gp
        have HX := Lib.hid (show arTo ns b x.tones (k + 1) = arTo ns b x.tones k by rw [HAT.out]; exact ar_drop (by rw [← hpl]; exact gp))
        clear hpl gp
        go_wp2_with fail
        refine (placeNote_any _ ns (x.tones[k].note + b) _ (Ints.mono HNI.out (by (repeat (first | with_reducible exact Below.refl _ _ | with_reducible exact hbw | (with_reducible refine Below.setCell ?_ ?_ _; rotate_left; · first | exact Nat.le_refl _ | omega | (simp; done) | (simp; omega)) | (with_reducible refine Below.alloc ?_ ?_ _; rotate_left; · first | exact Nat.le_refl _ | omega | (simp; done) | (simp; omega)) | with_reducible refine below_drewN ?_ _ | with_reducible refine Below.drew ?_)))) HSET.out (by omega) (by omega)).mono ?_
        rw [← HPL.out]
        rintro e w3 ⟨rfl, hb3⟩
        have t0' : w3.cell? ⟨wr.heap.size, 0, none⟩ = some (.int .i64 x.tones[k].note) := cellB hb3 (by simp [go_sem])
        have t1' : w3.cell? ⟨wr.heap.size, 1, none⟩ = some (.int .i64 x.tones[k].start) := cellB hb3 (by simp [go_sem])
        have t2' : w3.cell? ⟨wr.heap.size, 2, none⟩ = some (.int .i64 x.tones[k].len) := cellB hb3 (by simp [go_sem])
        have hst3 : Below wr.heap.size wr w3 := Below.trans (by (repeat (first | with_reducible exact Below.refl _ _ | with_reducible exact hbw | (with_reducible refine Below.setCell ?_ ?_ _; rotate_left; · first | exact Nat.le_refl _ | omega | (simp; done) | (simp; omega)) | (with_reducible refine Below.alloc ?_ ?_ _; rotate_left; · first | exact Nat.le_refl _ | omega | (simp; done) | (simp; omega)) | with_reducible refine below_drewN ?_ _ | with_reducible refine Below.drew ?_))) (hb3.mono (by simp <;> omega))
        have hz3 : wr.heap.size < w3.heap.size := by have := hb3.size; simp at this; omega
        have HB3 := Lib.hid (HBr.out.trans (hst3.mono hzr))
        have HK3 := Lib.hid (HK.out.mono hst3)
        clear hb3 hst3
        go_wp2
        go_roundw
        case rel => exact ⟨k + 1, n, a1, c1, a2, c2, by omega, by go_num, rfl, rfl, by rw [HX.out]; exact HN.out, by rw [HX.out]; exact HK3.out, HB3.out⟩
        case measure => simp [intOf] <;> omega
      · have d1 : decide (pl < 0) = false := by simpa using gp
        have GP := Lib.hid (show ¬ placeV ns (x.tones[k].note + b) < 0 by rw [← hpl]; exact gp)
        clear hpl gp
        go_wp2_with fail
        refine (placeNote_any _ ns (x.tones[k].note + b) _ (Ints.mono HNI.out (by (repeat (first | with_reducible exact Below.refl _ _ | with_reducible exact hbw | (with_reducible refine Below.setCell ?_ ?_ _; rotate_left; · first | exact Nat.le_refl _ | omega | (simp; done) | (simp; omega)) | (with_reducible refine Below.alloc ?_ ?_ _; rotate_left; · first | exact Nat.le_refl _ | omega | (simp; done) | (simp; omega)) | with_reducible refine below_drewN ?_ _ | with_reducible refine Below.drew ?_)))) HSET.out (by omega) (by omega)).mono ?_
        rw [← HPL.out]
        rintro e w3 ⟨rfl, hb3⟩
        have t0' : w3.cell? ⟨wr.heap.size, 0, none⟩ = some (.int .i64 x.tones[k].note) := cellB hb3 (by simp [go_sem])
        have t1' : w3.cell? ⟨wr.heap.size, 1, none⟩ = some (.int .i64 x.tones[k].start) := cellB hb3 (by simp [go_sem])
        have t2' : w3.cell? ⟨wr.heap.size, 2, none⟩ = some (.int .i64 x.tones[k].len) := cellB hb3 (by simp [go_sem])
        have hst3 : Below wr.heap.size wr w3 := Below.trans (by (repeat (first | with_reducible exact Below.refl _ _ | with_reducible exact hbw | (with_reducible refine Below.setCell ?_ ?_ _; rotate_left; · first | exact Nat.le_refl _ | omega | (simp; done) | (simp; omega)) | (with_reducible refine Below.alloc ?_ ?_ _; rotate_left; · first | exact Nat.le_refl _ | omega | (simp; done) | (simp; omega)) | with_reducible refine below_drewN ?_ _ | with_reducible refine Below.drew ?_))) (hb3.mono (by simp <;> omega))
        have hz3 : wr.heap.size < w3.heap.size := by have := hb3.size; simp at this; omega
        have HB3 := Lib.hid (HBr.out.trans (hst3.mono hzr))
        have HK3 := Lib.hid (HK.out.mono hst3)
        clear hb3 hst3
        have n0 : ∀ o y, (ext w3 none y).cell? ⟨wr.heap.size, o, none⟩ = w3.cell? ⟨wr.heap.size, o, none⟩ := fun o y => cell?_ext (w := w3) hz3 (by simp)
        go_wp2_with fail
        refine wp_region_ord [(0, true), (1, true), (2, true), (3, true), (4, true), (5, true), (6, true), (7, true), (8, true), (9, true), (10, true), (11, true), (12, false), (13, false), (14, true)] (none) (by kernel_rfl) (by kernel_rfl) ?_
        (repeat (with_reducible refine wpOrd_soft (fun K hK => ?_); simp only [List.getElem?_toArray, List.getElem?_cons_zero, List.getElem?_cons_succ]; first | (go_simp; refine hK _ ?_) | (simp only [undef]; go_simp; refine hK _ ?_); clear hK K))
        (with_reducible refine wpOrd_hard ?_; simp only [List.getElem?_toArray, List.getElem?_cons_zero, List.getElem?_cons_succ])
        go_wp2_with fail
        refine ⟨grown_of_below (by (repeat (first | with_reducible exact Below.refl _ _ | with_reducible exact hbw | (with_reducible refine Below.setCell ?_ ?_ _; rotate_left; · first | exact Nat.le_refl _ | omega | (simp; done) | (simp; omega)) | (with_reducible refine Below.alloc ?_ ?_ _; rotate_left; · first | exact Nat.le_refl _ | omega | (simp; done) | (simp; omega)) | with_reducible refine below_drewN ?_ _ | with_reducible refine Below.drew ?_))), ?_⟩
        (with_reducible refine wpOrd_hard ?_; simp only [List.getElem?_toArray, List.getElem?_cons_zero, List.getElem?_cons_succ])
        go_wp2_with fail
        refine ⟨grown_of_below (by (repeat (first | with_reducible exact Below.refl _ _ | with_reducible exact hbw | (with_reducible refine Below.setCell ?_ ?_ _; rotate_left; · first | exact Nat.le_refl _ | omega | (simp; done) | (simp; omega)) | (with_reducible refine Below.alloc ?_ ?_ _; rotate_left; · first | exact Nat.le_refl _ | omega | (simp; done) | (simp; omega)) | with_reducible refine below_drewN ?_ _ | with_reducible refine Below.drew ?_))), ?_⟩
        (repeat (with_reducible refine wpOrd_soft (fun K hK => ?_); simp only [List.getElem?_toArray, List.getElem?_cons_zero, List.getElem?_cons_succ]; first | (go_simp; refine hK _ ?_) | (simp only [undef]; go_simp; refine hK _ ?_); clear hK K))
        (with_reducible refine wpOrd_nil ?_); refine NoPanic.normal ?_
        obtain ⟨w4, hw4⟩ : ∃ w4 : World, w4 = (w3.alloc (.cells #[.int .i64 pl, .int .i64 x.tones[k].start, .int .i64 x.tones[k].len] 92)).drew := ⟨_, rfl⟩
        rw [← hw4]
        have hst4 : Below w3.heap.size w3 w4 := by rw [hw4]; (repeat (first | with_reducible exact Below.refl _ _ | with_reducible exact hbw | (with_reducible refine Below.setCell ?_ ?_ _; rotate_left; · first | exact Nat.le_refl _ | omega | (simp; done) | (simp; omega)) | (with_reducible refine Below.alloc ?_ ?_ _; rotate_left; · first | exact Nat.le_refl _ | omega | (simp; done) | (simp; omega)) | with_reducible refine below_drewN ?_ _ | with_reducible refine Below.drew ?_))
        have u0 : w4.cell? ⟨w3.heap.size, 0, none⟩ = some (.int .i64 pl) := by rw [hw4]; simp [go_sem]
        have u1 : w4.cell? ⟨w3.heap.size, 1, none⟩ = some (.int .i64 x.tones[k].start) := by rw [hw4]; simp [go_sem]
        have u2 : w4.cell? ⟨w3.heap.size, 2, none⟩ = some (.int .i64 x.tones[k].len) := by rw [hw4]; simp [go_sem]
        have HZ4 := Lib.hid (show w4.heap.size = w3.heap.size + 1 by rw [hw4]; simp)
        have hz4 : w3.heap.size < w4.heap.size := by have := HZ4.out; omega
        have HT := Lib.hid (show arTon ns b x.tones[k] = ⟨pl, x.tones[k].start, x.tones[k].len⟩ by unfold arTon; rw [HPL.out])
        have HM := Lib.hid (show arMv ns b x.tones[k] = (pl != x.tones[k].note + b) by unfold arMv; rw [HPL.out])
        have HK4 := Lib.hid (HK3.out.mono hst4)
        have HB4 := Lib.hid (HB3.out.trans (hst4.mono HB3.out.size))
        clear hw4 hst4 n0 t0' t1' t2' w1'
        obtain ⟨m, hm⟩ : ∃ m : Bool, m = (pl != x.tones[k].note + b) := ⟨_, rfl⟩
        have HMM := Lib.hid hm
        rw [← hm]
        clear hm
        go_wp2_with fail
        refine (idxF1_any 79 (.pointer (some ⟨w3.heap.size, 0, none⟩)) (snB (arTon ns b x.tones[k])) _ (arTo ns b x.tones k).1 _ HK4.out.tons enters_arr (fun j hj w5 hb5 => arr1_any (arTon ns b x.tones[k]) (arTo ns b x.tones k).1[j] _ w5 (by rw [HT.out]; exact cellB hb5 u0) (by rw [HT.out]; exact cellB hb5 u1))).mono ?_
        rintro e w5 ⟨r, rfl, hr, hb5⟩
        have u0 := cellB hb5 u0
        have u1 := cellB hb5 u1
        have u2 := cellB hb5 u2
        have hz5 : w3.heap.size < w5.heap.size := by have := hb5.size; omega
        have HK5 := Lib.hid (HK4.out.mono hb5)
        have HB5 := Lib.hid (HB4.out.trans (hb5.mono HB4.out.size))
        have hzz := HB5.out.size
        clear hb5
        rcases hr with ⟨rfl, hr⟩ | ⟨j, hj, rfl, hr1, hr2⟩
        · have HX := Lib.hid (show arTo ns b x.tones (k + 1) = ((arTo ns b x.tones k).1 ++ [⟨pl, x.tones[k].start, x.tones[k].len⟩], (arTo ns b x.tones k).2 ++ [m]) by rw [HAT.out, ar_new (by have := GP.out; omega) hr, HT.out, HM.out, HMM.out])
          clear hr
          go_wp2_with (at_builtin; refine append_one_at rfl _ _ 27 rfl w2.heap.size 92 _ 3 24 Try.underlying27 info_Tone rfl (by decide) _ n _ rfl HK5.out.r1 [.int .i64 pl, .int .i64 x.tones[k].start, .int .i64 x.tones[k].len] rfl (by simp [Value.oneCell']) w5.heap.size rfl rfl (by omega) (by decide) hzz ?_)
          intro a5 e5 w6 ho6 hg6 hb6 hn6
          have hz6 := hb6.size
          have HO6 := Lib.hid ho6
          have HD6 := Lib.hid (Apt.keep HK5.out.ap HK5.out.r2 hg6)
          have HP6 := Lib.hid ((Apt.next HK5.out.ap hn6 (fun q hq => (HK5.out.r2.lt q hq).2)).symm)
          have HB6 := Lib.hid (HB5.out.trans hb6)
          clear ho6 hg6 hn6 hb6
          go_wp2_with (at_builtin; refine append_one_at rfl _ _ 96 rfl w2.heap.size 4 (.bool false) 1 1 Try.underlying96 info_bool rfl (by decide) _ n _ rfl HD6.out [.bool m] rfl (by simp [Value.oneCell']) w6.heap.size rfl rfl (by omega) (by decide) (by omega) ?_)
          intro a6 e6 w7 ho7 hg7 hb7 hn7
          have HKN := Lib.hid (show Kept w7 w2.heap.size (.slice a5 (n + 1) e5) (.slice a6 (n + 1) e6) (n + 1) (arTo ns b x.tones (k + 1)) from by
            rw [HX.out]
            exact ⟨by rw [List.length_append, HK5.out.len1]; rfl, by rw [List.length_append, HK5.out.len2]; rfl, by rw [List.flatMap_append]; exact Apt.keep HP6.out HO6.out hg7, by rw [List.map_append]; exact ho7, (Apt.next HP6.out hn7 (fun q hq => (HO6.out.lt q hq).2)).symm⟩)
          have HB7 := Lib.hid (HB6.out.trans hb7)
          have HLN := Lib.hid (show n + 1 = (arTo ns b x.tones (k + 1)).1.length by rw [HX.out, List.length_append, HN.out]; rfl)
          clear ho7 hg7 hn7 hb7
          go_wp2
          go_roundw
          case rel => exact ⟨k + 1, n + 1, a5, e5, a6, e6, by omega, by go_num, rfl, rfl, HLN.out, HKN.out, HB7.out⟩
          case measure => simp [intOf] <;> omega
        · have hjn : j < n := by rw [HN.out]; exact hj
          obtain ⟨g1, g2, rfl, rfl, gne, gb1, gb2, gl1, gl2, ⟨_, v0, v1, v2⟩, z0, fz1, fz2, hst⟩ := HK5.out.at hjn
          have HST := Lib.hid (fun X M => hst X M)
          have n0 : ∀ o y, (ext w5 none y).cell? ⟨w3.heap.size, o, none⟩ = w5.cell? ⟨w3.heap.size, o, none⟩ := fun o y => cell?_ext (w := w5) hz5 (by simp)
          have n1 : ∀ o y, (ext w5 none y).cell? ⟨g1, o, none⟩ = w5.cell? ⟨g1, o, none⟩ := fun o y => cell?_ext (w := w5) gl1 (by simp)
          have p0 := fz1 (j * 3)
          have p1 := fz1 (j * 3 + 1)
          have p2 := fz1 (j * 3 + 2)
          have p3 := fz2 j
          have j0 : ¬ (j : Int) < 0 := by omega
          have j1 : (j : Int) < (n : Int) := by omega
          have j2 : (0 : Int) ≤ (j : Int) := by omega
          have gn2 : ¬ g2 = g1 := fun e => gne e.symm
          have gq1 : ¬ g1 = w3.heap.size := by have := (HK3.out.r1.lt g1 rfl).2; omega
          clear hst fz1 fz2
          by_cases gl : (arTo ns b x.tones k).1[j].len < x.tones[k].len
          · have d3 : decide ((arTo ns b x.tones k).1[j].len < x.tones[k].len) = true := by simpa using gl
            have HX := Lib.hid (show arTo ns b x.tones (k + 1) = ((arTo ns b x.tones k).1.set j ⟨pl, x.tones[k].start, x.tones[k].len⟩, (arTo ns b x.tones k).2.set j m) by rw [HAT.out, ar_set (by have := GP.out; omega) hj hr1 hr2 gl, HT.out, HM.out, HMM.out])
            clear gl hr1 hr2
            go_wp2_with fail
            refine wp_region_ord [(0, true), (1, true), (2, true), (3, true), (4, true), (5, true), (6, true), (7, true), (8, true)] (none) (by kernel_rfl) (by kernel_rfl) ?_
            (repeat (with_reducible refine wpOrd_soft (fun K hK => ?_); simp only [List.getElem?_toArray, List.getElem?_cons_zero, List.getElem?_cons_succ]; first | (go_simp; refine hK _ ?_) | (simp only [undef]; go_simp; refine hK _ ?_); clear hK K))
            (with_reducible refine wpOrd_nil ?_); refine NoPanic.normal ?_
            go_wp2
            go_roundw
            case rel => exact ⟨k + 1, n, _, c1, _, c2, by omega, by go_num, rfl, rfl, by rw [HX.out, List.length_set]; exact HN.out, by rw [HX.out]; exact (HST.out ⟨pl, x.tones[k].start, x.tones[k].len⟩ m).mono (by (repeat (first | with_reducible exact Below.refl _ _ | with_reducible exact hbw | (with_reducible refine Below.setCell ?_ ?_ _; rotate_left; · first | exact Nat.le_refl _ | omega | (simp; done) | (simp; omega)) | (with_reducible refine Below.alloc ?_ ?_ _; rotate_left; · first | exact Nat.le_refl _ | omega | (simp; done) | (simp; omega)) | with_reducible refine below_drewN ?_ _ | with_reducible refine Below.drew ?_))), by have hbw := HB5.out; (repeat (first | with_reducible exact Below.refl _ _ | with_reducible exact hbw | (with_reducible refine Below.setCell ?_ ?_ _; rotate_left; · first | exact Nat.le_refl _ | omega | (simp; done) | (simp; omega)) | (with_reducible refine Below.alloc ?_ ?_ _; rotate_left; · first | exact Nat.le_refl _ | omega | (simp; done) | (simp; omega)) | with_reducible refine below_drewN ?_ _ | with_reducible refine Below.drew ?_))⟩
            case measure => simp [intOf] <;> omega
          · have d3 : decide ((arTo ns b x.tones k).1[j].len < x.tones[k].len) = false := by simpa using gl
            have HX := Lib.hid (show arTo ns b x.tones (k + 1) = arTo ns b x.tones k by rw [HAT.out, ar_keep (by have := GP.out; omega) hj hr1 hr2 gl])
            clear gl hr1 hr2
            go_wp2_with fail
            refine wp_region_ord [(0, true), (1, true), (2, true), (3, true), (4, true), (5, true), (6, true), (7, true), (8, true)] (none) (by kernel_rfl) (by kernel_rfl) ?_
            (repeat (with_reducible refine wpOrd_soft (fun K hK => ?_); simp only [List.getElem?_toArray, List.getElem?_cons_zero, List.getElem?_cons_succ]; first | (go_simp; refine hK _ ?_) | (simp only [undef]; go_simp; refine hK _ ?_); clear hK K))
            (with_reducible refine wpOrd_nil ?_); refine NoPanic.normal ?_
            go_wp2
            go_roundw
            case rel => exact ⟨k + 1, n, _, c1, _, c2, by omega, by go_num, rfl, rfl, by rw [HX.out]; exact HN.out, by rw [HX.out]; exact HK5.out.mono (by (repeat (first | with_reducible exact Below.refl _ _ | with_reducible exact hbw | (with_reducible refine Below.setCell ?_ ?_ _; rotate_left; · first | exact Nat.le_refl _ | omega | (simp; done) | (simp; omega)) | (with_reducible refine Below.alloc ?_ ?_ _; rotate_left; · first | exact Nat.le_refl _ | omega | (simp; done) | (simp; omega)) | with_reducible refine below_drewN ?_ _ | with_reducible refine Below.drew ?_))), by have hbw := HB5.out; (repeat (first | with_reducible exact Below.refl _ _ | with_reducible exact hbw | (with_reducible refine Below.setCell ?_ ?_ _; rotate_left; · first | exact Nat.le_refl _ | omega | (simp; done) | (simp; omega)) | (with_reducible refine Below.alloc ?_ ?_ _; rotate_left; · first | exact Nat.le_refl _ | omega | (simp; done) | (simp; omega)) | with_reducible refine below_drewN ?_ _ | with_reducible refine Below.drew ?_))⟩
            case measure => simp [intOf] <;> omega
    · obtain rfl : k = x.tones.length := by omega
      obtain ⟨wo, hwo⟩ : ∃ wo : World, wo = wr := ⟨_, rfl⟩
      subst hwo
      have l2 := HK.out.len2
      have z0 := cellL HBr.out (by simp; omega) Z0.out
      have z1 := cellL HBr.out (by simp; omega) Z1.out
      have r0 := cellL HBr.out (by simp; omega) R0.out
      have r1 := cellL HBr.out (by simp; omega) R1.out
      have f0 := frozenL HBr.out (by simp; omega) F0.out
      have f1 := frozenL HBr.out (by simp; omega) F1.out
      clear hb
      go_wp2_with fail
      go_loopw [17, 84, 19] (fun c i _ wr => ∃ k : Nat, k ≤ n ∧ i = .int .i64 (k : Int) ∧ c = .int .i64 (mvCnt (arTo ns b x.tones x.tones.length).2 k) ∧ wr = wo) (fun _ i _ _ => n - (intOf i).toNat)
      case atStart => exact ⟨0, Nat.zero_le _, by go_num, rfl, rfl⟩
      case round =>
        obtain ⟨k, hkn, rfl, rfl, rfl⟩ := hrel
        obtain ⟨m0, m1⟩ := mv_bd (arTo ns b x.tones x.tones.length).2 k
        have w1' : IntKind.i64.wrap (mvCnt (arTo ns b x.tones x.tones.length).2 k + 1) = mvCnt (arTo ns b x.tones x.tones.length).2 k + 1 := IntWalk.i64_in _ (by omega)
        by_cases hlt : k < n
        · obtain ⟨g1, g2, rfl, rfl, gne, gb1, gb2, gl1, gl2, _, y0, _, _, _⟩ := HK.out.at hlt
          cases gm : (arTo ns b x.tones x.tones.length).2.getD k false
          · rw [gm] at y0
            have HX := Lib.hid (mv_no gm); clear gm
            go_wp2
            go_roundw
            case rel => exact ⟨k + 1, by omega, by go_num, by rw [HX.out], by first | rfl | trivial⟩
            case measure => simp [intOf] <;> omega
          · rw [gm] at y0
            have HX := Lib.hid (mv_yes gm); clear gm
            go_wp2
            go_roundw
            case rel => exact ⟨k + 1, by omega, by go_num, by rw [HX.out], by first | rfl | trivial⟩
            case measure => simp [intOf] <;> omega
        · obtain rfl : k = n := by omega
          have w3' : IntKind.i64.wrap ((x.tones.length : Int) - (k : Int)) = (x.tones.length : Int) - (k : Int) := IntWalk.i64_in _ (by omega)
          go_wp2_with fail
          refine (sizeT_any _ _ _ _).mono ?_
          rintro e w8 ⟨rfl, hw8⟩
          subst w8
          go_wp2_with fail
          refine (sizeT_any _ _ _ _).mono ?_
          rintro e w8 ⟨rfl, hw8⟩
          subst w8
          have HOW := Lib.hid (OwnRow.mk' HK.out.r1)
          have hws := HBr.out.size
          go_wp2_with fail
          refine (tuneOf_any w2.heap.size k x.name _ (arTo ns b x.tones x.tones.length).1 _ HOW.out HK.out.len1 (by omega) hnm hws).mono ?_
          rintro e w9 ⟨v9, rfl, ho9, ht9⟩
          obtain ⟨lv9, rfl, ho9⟩ := ho9
          obtain ⟨a8, c8, rfl⟩ := ho9.form
          have z9 := ht9.size
          have r0 := cellT ht9 r0 (by simp only; omega)
          have r1 := cellT ht9 r1 (by simp only; omega)
          have f0 := touch_frozen ht9 (by simp only; omega) (by simp only; omega) f0
          have f1 := touch_frozen ht9 (by simp only; omega) (by simp only; omega) f1
          have l9 : w.heap.size + 1 < w9.heap.size := by omega
          have l10 : w.heap.size + 1 < w9.heap.size + 1 := by omega
          have HO9 := Lib.hid ho9
          have HB9 := Lib.hid (show Below w.heap.size w w9 from HB2.out.trans ((ht9.below HBr.out (Nat.le_refl _) hws).mono HB2.out.size))
          have HN9 := Lib.hid (show (arTo ns b x.tones x.tones.length).1.length = k from HN.out.symm)
          clear ho9 ht9
          go_wp2
          refine bodyPost_ret (v := .tuple #[.agg #[.string (toV x.name (arTo ns b x.tones x.tones.length).1).name, .slice a8 (toV x.name (arTo ns b x.tones x.tones.length).1).tones.length c8], .int .i64 (mvCnt (arTo ns b x.tones x.tones.length).2 k), .int .i64 ((x.tones.length : Int) - k)]) (by simp [results, Try.results45, go_sem, l9, l10, r0, r1]) rfl ⟨_, by rw [HN9.out], ⟨_, rfl, ?_⟩, ?_⟩
          · have hz2 := HZ2.out
            refine (HO9.out.touch (B' := w.heap.size + 1) (E' := w.heap.size + 2) ?_ (Or.inr (by omega))).wide (by omega) (by simp)
            have htc := Touch.refl (w.heap.size + 1) (w.heap.size + 2) w9
            (repeat (first | with_reducible exact Touch.refl _ _ _ | with_reducible exact htc | (with_reducible refine Touch.setCell ?_ ?_ _; rotate_left; · (simp only; omega)) | (with_reducible refine Touch.setNew ?_ ?_ _; rotate_left; · (first | (simp only; omega) | (simp; done) | (simp; omega))) | with_reducible refine Touch.alloc ?_ _ | with_reducible refine Touch.drewN ?_ _ | with_reducible refine Touch.drew ?_))
          · have hbw := HB9.out
            (repeat (first | with_reducible exact Below.refl _ _ | with_reducible exact hbw | (with_reducible refine Below.setCell ?_ ?_ _; rotate_left; · first | exact Nat.le_refl _ | omega | (simp; done) | (simp; omega)) | (with_reducible refine Below.alloc ?_ ?_ _; rotate_left; · first | exact Nat.le_refl _ | omega | (simp; done) | (simp; omega)) | with_reducible refine below_drewN ?_ _ | with_reducible refine Below.drew ?_))

end Go.Proofs.Ytemmnjokojgjaaa
/- Contract of spec.l26Arrange. -/
set_option linter.unusedSimpArgs false
set_option linter.unnecessarySimpa false
set_option linter.unusedVariables false
set_option maxRecDepth 100000
namespace Go.Proofs.Ytemmnjokojgjaaa
open Go.RowKit

theorem snB_s {t y : Ton} (h : ¬ y.start = t.start) : snB t y = false := by unfold snB; rw [decide_eq_false h]; rfl
theorem snB_n {t y : Ton} (h : ¬ y.note = t.note) : snB t y = false := by unfold snB; rw [decide_eq_false h]; simp
theorem grown_cell1 (w : World) (q o : Nat) (u : Value) : w.grownBy (w.setCell ⟨q, o, none⟩ u) (some q) := ⟨rfl, rfl, rfl, by simp [World.setCell], fun k _ hk => Below.heap_setCell _ _ _ _ (fun e => hk (by simp [e]))⟩
/-- What the search for a tone says after m tones: none, or which. -/
def LastSN (t : Ton) (d : List Ton) (m : Nat) (r : Int) : Prop := (r = -1 ∧ ∀ i (hi : i < d.length), i < m → snB t d[i] = false) ∨ ∃ (j : Nat) (hj : j < d.length), j < m ∧ r = (j : Int) ∧ snB t d[j] = true
theorem last_no {t : Ton} {d : List Ton} {m : Nat} {r : Int} (h : LastSN t d m r) (hm : m < d.length) (hs : snB t d[m] = false) : LastSN t d (m + 1) r := by
  rcases h with ⟨h1, h2⟩ | ⟨j, hj, h1, h2, h3⟩
  · refine .inl ⟨h1, fun i hi hm' => ?_⟩
    by_cases e : i = m
    · subst e; exact hs
    · exact h2 i hi (by omega)
  · exact .inr ⟨j, hj, by omega, h2, h3⟩
theorem last_yes {t : Ton} {d : List Ton} {m : Nat} {r : Int} (h : LastSN t d m r) (hm : m < d.length) (hs : snB t d[m] = true) : LastSN t d (m + 1) (m : Int) := .inr ⟨m, hm, by omega, rfl, hs⟩

set_option maxHeartbeats 4000000 in
theorem l26Arrange_any (kb : Nat) (lv v : Value) (x : TunD) (ns : List Int) (b : Int) (w : World) (h : TunIn w kb lv x) (hn : Ints w v ns) (ok : validTunB x = true) (hset : SetIn ns) (hs : shiftIn b) :
    Calls Try.prog 42 #[.pointer (some ⟨kb, 0, none⟩), v, .int .i64 b] w fun e w' => ∃ v', e = .returned (.tuple #[v', .int .i64 (arM x ns b), .int .i64 (arD x ns b)]) ∧ OwnTun w.heap.size w'.heap.size w' v' (arT x ns b) ∧ Below w.heap.size w w' := by
  obtain ⟨kc0, kc1, hlv, hnm⟩ := h
  obtain ⟨a, ca, rfl, hca, hcm, _⟩ := id hlv
  obtain ⟨a9, c9, rfl, _, _, _⟩ := id hn
  clear hca hcm
  have hkb := World.block_lt_of_cell? w _ kc0
  simp only at hkb
  have hln := tun_len ok
  have OK := Lib.hid ok
  have HSET := Lib.hid hset
  have AOK := Lib.hid (fun k => ar_ok (b := b) hset (ts := x.tones) (fun y hy => by obtain ⟨k, hk, rfl⟩ := List.getElem_of_mem hy; exact tun_tone ok hk) k)
  obtain ⟨sb1, sb2⟩ := hs
  clear ok hset
  go_enter Try.func42, Try.ntmps42
  go_wp2_with fail
  obtain ⟨w2, hw2⟩ : ∃ w2 : World, w2 = ((w.alloc (.cells #[.string ⟨#[]⟩, .slice none 0 0] 29)).alloc (.cells #[] 92)).alloc (.cells #[] 4) := ⟨_, rfl⟩
  try rw [← hw2]
  have HB2 := Lib.hid (show Below w.heap.size w w2 by rw [hw2]; (repeat (first | with_reducible exact Below.refl _ _ | with_reducible exact hbw | (with_reducible refine Below.setCell ?_ ?_ _; rotate_left; · first | exact Nat.le_refl _ | omega | (simp; done) | (simp; omega)) | (with_reducible refine Below.alloc ?_ ?_ _; rotate_left; · first | exact Nat.le_refl _ | omega | (simp; done) | (simp; omega)) | with_reducible refine below_drewN ?_ _ | with_reducible refine Below.drew ?_)))
  have HZ2 := Lib.hid (show w2.heap.size = w.heap.size + 3 by rw [hw2]; simp)
  have R0 := Lib.hid (show w2.cell? ⟨w.heap.size, 0, none⟩ = some (.string ⟨#[]⟩) by rw [hw2]; simp [go_sem])
  have R1 := Lib.hid (show w2.cell? ⟨w.heap.size, 1, none⟩ = some (.slice none 0 0) by rw [hw2]; simp [go_sem])
  have F0 := Lib.hid (show w2.frozen? ⟨w.heap.size, 0, none⟩ = false by rw [hw2]; simp [go_sem])
  have F1 := Lib.hid (show w2.frozen? ⟨w.heap.size, 1, none⟩ = false by rw [hw2]; simp [go_sem])
  have KP := Lib.hid (show Kept w2 (w.heap.size + 1) (.slice (some ⟨w.heap.size + 1, 0, none⟩) 0 0) (.slice (some ⟨w.heap.size + 2, 0, none⟩) 0 0) 0 ([], []) from by
    have f1 := owns_empty (w.alloc (.cells #[.string ⟨#[]⟩, .slice none 0 0] 29)) 92 3 (w.heap.size + 1) (by simp)
    have f2 := owns_empty ((w.alloc (.cells #[.string ⟨#[]⟩, .slice none 0 0] 29)).alloc (.cells #[] 92)) 4 1 (w.heap.size + 1) (by simp)
    have f3 := owns_mono (w' := w2) f1 (by rw [hw2]; exact belowA _ _)
    rw [← hw2] at f2
    exact ⟨rfl, rfl, by simpa using f3, by simpa using f2, .inr (.inr (by simp [Value.ownBlock]))⟩)
  clear hw2
  go_loopw [10, 11, 12, 13, 14, 15, 16, 17, 18] (fun dr ts ms i _ _ _ _ _ wr => ∃ (k n : Nat) (a1 : Option Addr) (c1 : Nat) (a2 : Option Addr) (c2 : Nat), k ≤ x.tones.length ∧ i = .int .i64 (k : Int) ∧ dr = .int .i64 ((k : Int) - (n : Int)) ∧ ts = .slice a1 n c1 ∧ ms = .slice a2 n c2 ∧ n = (arTo ns b x.tones k).1.length ∧ Kept wr (w.heap.size + 1) (.slice a1 n c1) (.slice a2 n c2) n (arTo ns b x.tones k) ∧ Below (w.heap.size + 1) w2 wr) (fun _ _ _ i _ _ _ _ _ _ => x.tones.length - (intOf i).toNat)
  case atStart => exact ⟨0, 0, some ⟨w.heap.size + 1, 0, none⟩, 0, some ⟨w.heap.size + 2, 0, none⟩, 0, Nat.zero_le _, by go_num, by go_num, rfl, by simp, rfl, KP.out, Below.refl _ _⟩
  case round =>
    clear KP
    obtain ⟨k, n, a1, c1, a2, c2, hk, rfl, rfl, rfl, rfl, hnn, hK, hb⟩ := hrel
    obtain ⟨wo, hwo⟩ : ∃ wo : World, wo = wr := ⟨_, rfl⟩
    subst hwo
    have HK := Lib.hid hK; have HN := Lib.hid hnn; have HBr := Lib.hid hb
    have hzr := hb.size
    have hzw : w.heap.size + 3 ≤ wo.heap.size := by have := HZ2.out; omega
    have hle := (AOK.out k).le
    rw [← hnn] at hle
    have hb0 := Lib.hid (show Below w.heap.size w wo from HB2.out.trans (⟨hb.os, hb.tape, hb.output, hb.size, fun q hq => hb.block q (by omega)⟩ : Below w.heap.size w2 wo))
    have u0 := cellB hb0.out kc0
    have u1 := cellB hb0.out kc1
    have hkb2 : kb < wo.heap.size := by omega
    clear hK hnn hb
    by_cases hlt : k < x.tones.length
    · obtain ⟨b1, o1, rfl, hB1, t0, t1, t2⟩ := (hlv.mono hb0.out).at hlt
      have hok := tun_tone OK.out hlt
      obtain ⟨n1, n2⟩ := hok.noteIn
      have w1' : IntKind.i64.wrap (x.tones[k].note + b) = x.tones[k].note + b := IntWalk.i64_in _ (by omega)
      have w2' : IntKind.i64.wrap ((k : Int) - (n : Int) + 1) = (k : Int) - (n : Int) + 1 := IntWalk.i64_in _ (by omega)
      have HNI := Lib.hid (Ints.mono hn hb0.out)
      have HAT := Lib.hid (arTo_at (ns := ns) (b := b) hlt)
      obtain ⟨pl, hpl⟩ : ∃ pl, pl = placeV ns (x.tones[k].note + b) := ⟨_, rfl⟩
      have HPL := Lib.hid hpl
      have HLV := Lib.hid hlv
      clear hok
      by_cases gp : pl < 0
      · have d1 : decide (pl < 0) = true := by simpa using gp
        have HX := Lib.hid (show arTo ns b x.tones (k + 1) = arTo ns b x.tones k by rw [HAT.out]; exact ar_drop (by rw [← hpl]; exact gp))
        clear hpl gp
        go_wp2_with fail
        refine (l26Place_any _ ns (x.tones[k].note + b) _ (Ints.mono HNI.out (by (repeat (first | with_reducible exact Below.refl _ _ | with_reducible exact hbw | (with_reducible refine Below.setCell ?_ ?_ _; rotate_left; · first | exact Nat.le_refl _ | omega | (simp; done) | (simp; omega)) | (with_reducible refine Below.alloc ?_ ?_ _; rotate_left; · first | exact Nat.le_refl _ | omega | (simp; done) | (simp; omega)) | with_reducible refine below_drewN ?_ _ | with_reducible refine Below.drew ?_)))) (by omega) (by omega)).mono ?_
        rw [← HPL.out]
        rintro e w3 ⟨rfl, hq3⟩
        have hb3 := hq3.below (wo.heap.size + 1)
        have t0' : w3.cell? ⟨wo.heap.size, 0, none⟩ = some (.int .i64 x.tones[k].note) := (hq3.cell _).trans (by simp [go_sem])
        have t1' : w3.cell? ⟨wo.heap.size, 1, none⟩ = some (.int .i64 x.tones[k].start) := (hq3.cell _).trans (by simp [go_sem])
        have t2' : w3.cell? ⟨wo.heap.size, 2, none⟩ = some (.int .i64 x.tones[k].len) := (hq3.cell _).trans (by simp [go_sem])
        have tf : w3.frozen? ⟨wo.heap.size, 0, none⟩ = false := (hb3.frozen (by simp)).trans (by simp [go_sem])
        have hst3 : Below wo.heap.size wo w3 := Below.trans (by (repeat (first | with_reducible exact Below.refl _ _ | with_reducible exact hbw | (with_reducible refine Below.setCell ?_ ?_ _; rotate_left; · first | exact Nat.le_refl _ | omega | (simp; done) | (simp; omega)) | (with_reducible refine Below.alloc ?_ ?_ _; rotate_left; · first | exact Nat.le_refl _ | omega | (simp; done) | (simp; omega)) | with_reducible refine below_drewN ?_ _ | with_reducible refine Below.drew ?_))) (hb3.mono (by simp))
        have hz3 : wo.heap.size < w3.heap.size := by have := hb3.size; simp at this; omega
        have HB3 := Lib.hid (HBr.out.trans (hst3.mono (by omega)))
        have HK3 := Lib.hid (HK.out.mono hst3)
        have u0' := cellB hst3 u0
        have u1' := cellB hst3 u1
        have HST3 := Lib.hid hst3
        clear hb3 hst3 hq3
        go_wp2
        go_roundw
        case rel => exact ⟨k + 1, n, a1, c1, a2, c2, by omega, by go_num, by rw [show ((k : Nat) + 1 : Nat) = k + 1 from rfl, Int.natCast_succ]; congr 1; omega, rfl, rfl, by rw [HX.out]; exact HN.out, by rw [HX.out]; exact HK3.out, HB3.out⟩
        case measure => simp [intOf] <;> omega
      · have d1 : decide (pl < 0) = false := by simpa using gp
        have GP := Lib.hid (show ¬ placeV ns (x.tones[k].note + b) < 0 by rw [← hpl]; exact gp)
        have HT := Lib.hid (show arTon ns b x.tones[k] = ⟨pl, x.tones[k].start, x.tones[k].len⟩ by unfold arTon; rw [HPL.out])
        have HM := Lib.hid (show arMv ns b x.tones[k] = (pl != x.tones[k].note + b) by unfold arMv; rw [HPL.out])
        clear hpl gp
        go_wp2_with fail
        refine (l26Place_any _ ns (x.tones[k].note + b) _ (Ints.mono HNI.out (by (repeat (first | with_reducible exact Below.refl _ _ | with_reducible exact hbw | (with_reducible refine Below.setCell ?_ ?_ _; rotate_left; · first | exact Nat.le_refl _ | omega | (simp; done) | (simp; omega)) | (with_reducible refine Below.alloc ?_ ?_ _; rotate_left; · first | exact Nat.le_refl _ | omega | (simp; done) | (simp; omega)) | with_reducible refine below_drewN ?_ _ | with_reducible refine Below.drew ?_)))) (by omega) (by omega)).mono ?_
        rw [← HPL.out]
        rintro e w3 ⟨rfl, hq3⟩
        have hb3 := hq3.below (wo.heap.size + 1)
        have t0' : w3.cell? ⟨wo.heap.size, 0, none⟩ = some (.int .i64 x.tones[k].note) := (hq3.cell _).trans (by simp [go_sem])
        have t1' : w3.cell? ⟨wo.heap.size, 1, none⟩ = some (.int .i64 x.tones[k].start) := (hq3.cell _).trans (by simp [go_sem])
        have t2' : w3.cell? ⟨wo.heap.size, 2, none⟩ = some (.int .i64 x.tones[k].len) := (hq3.cell _).trans (by simp [go_sem])
        have tf : w3.frozen? ⟨wo.heap.size, 0, none⟩ = false := (hb3.frozen (by simp)).trans (by simp [go_sem])
        have hst3 : Below wo.heap.size wo w3 := Below.trans (by (repeat (first | with_reducible exact Below.refl _ _ | with_reducible exact hbw | (with_reducible refine Below.setCell ?_ ?_ _; rotate_left; · first | exact Nat.le_refl _ | omega | (simp; done) | (simp; omega)) | (with_reducible refine Below.alloc ?_ ?_ _; rotate_left; · first | exact Nat.le_refl _ | omega | (simp; done) | (simp; omega)) | with_reducible refine below_drewN ?_ _ | with_reducible refine Below.drew ?_))) (hb3.mono (by simp))
        have hz3 : wo.heap.size < w3.heap.size := by have := hb3.size; simp at this; omega
        have HB3 := Lib.hid (HBr.out.trans (hst3.mono (by omega)))
        have HK3 := Lib.hid (HK.out.mono hst3)
        have u0' := cellB hst3 u0
        have u1' := cellB hst3 u1
        have HST3 := Lib.hid hst3
        clear hb3 hst3 hq3
        obtain ⟨m, hm⟩ : ∃ m : Bool, m = (pl != x.tones[k].note + b) := ⟨_, rfl⟩
        have HMM := Lib.hid hm
        have hm2 : (pl != x.tones[k].note + b) = m := hm.symm
        clear hm
        go_wp2_with fail
        obtain ⟨w4, hw4⟩ : ∃ w4 : World, w4 = w3.setCell ⟨wo.heap.size, 0, none⟩ (.int .i64 pl) := ⟨_, rfl⟩
        rw [← hw4]
        have hz4 : w4.heap.size = w3.heap.size := by rw [hw4]; simp
        have hst4 : Touch wo.heap.size (wo.heap.size + 1) w3 w4 := by rw [hw4]; exact (Touch.refl _ _ _).setCell (by simp) _
        have T0 := Lib.hid (show w4.cell? ⟨wo.heap.size, 0, none⟩ = some (.int .i64 pl) by rw [hw4]; simp [go_sem, t0', tf, hz3])
        have T1 := Lib.hid (show w4.cell? ⟨wo.heap.size, 1, none⟩ = some (.int .i64 x.tones[k].start) by rw [hw4]; simp [go_sem, t1', hz3])
        have T2 := Lib.hid (show w4.cell? ⟨wo.heap.size, 2, none⟩ = some (.int .i64 x.tones[k].len) by rw [hw4]; simp [go_sem, t2', hz3])
        have HK4 := Lib.hid (show Kept w4 (w.heap.size + 1) (.slice a1 n c1) (.slice a2 n c2) n (arTo ns b x.tones k) from by
          have hg : w3.grownBy w4 (some wo.heap.size) := by rw [hw4]; exact ⟨rfl, rfl, rfl, by simp [World.setCell], fun q _ hq => Below.heap_setCell _ _ _ _ (fun e => hq (by simp [e]))⟩
          have l1 := HK.out.r1.lt
          have l2 := HK.out.r2.lt
          refine ⟨HK3.out.len1, HK3.out.len2, World.ownsRow.kept HK3.out.r1 hg ?_, World.ownsRow.kept HK3.out.r2 hg ?_, HK3.out.ap⟩
          · refine .inr fun e => ?_
            have := (l1 _ e).2; omega
          · refine .inr fun e => ?_
            have := (l2 _ e).2; omega)
        have HB4 := Lib.hid (show Below (w.heap.size + 1) w2 w4 from hst4.below HB3.out (by omega) (by have := HB3.out.size; have := HZ2.out; omega))
        have hz4' : wo.heap.size < w4.heap.size := by omega
        have HZ4 := Lib.hid hz4
        clear hw4 hst4 t0' t1' t2' tf u0' u1' hz4 w1'
        go_loopw [17, 18] (fun r j wr => ∃ (q : Nat) (rv : Int), q ≤ n ∧ j = .int .i64 (q : Int) ∧ r = .int .i64 rv ∧ LastSN (arTon ns b x.tones[k]) (arTo ns b x.tones k).1 q rv ∧ Q w4 wr) (fun _ j _ => n - (intOf j).toNat)
        case atStart => exact ⟨0, -1, Nat.zero_le _, by go_num, rfl, .inl ⟨rfl, fun i hi h => by omega⟩, Q.refl _⟩
        case round =>
          obtain ⟨q, rv, hq, rfl, rfl, hl, hw⟩ := hrel
          have HL := Lib.hid hl; clear hl
          have e0 := (hw.cell _).trans T0.out
          have e1 := (hw.cell _).trans T1.out
          have e2 := (hw.cell _).trans T2.out
          have hbq : Below w4.heap.size w4 wr := hw.below _
          have HZQ := Lib.hid (show wr.heap.size = w4.heap.size by obtain ⟨z, rfl⟩ := hw; rfl)
          have hzr2 : wo.heap.size < wr.heap.size := by have := HZQ.out; omega
          have HKq := Lib.hid (HK4.out.mono hbq)
          have HBq := Lib.hid (HB4.out.trans (hbq.mono (by have := HB4.out.size; have := HZ2.out; omega)))
          have HQ := Lib.hid hw
          by_cases hqn : q < n
          · obtain ⟨g1, g2, rfl, rfl, gne, gb1, gb2, gl1, gl2, ⟨hq1, v0, v1, v2⟩, _, _, _, _⟩ := HKq.out.at hqn
            have n0 : ∀ o y, (ext wr none y).cell? ⟨wo.heap.size, o, none⟩ = wr.cell? ⟨wo.heap.size, o, none⟩ := fun o y => cell?_ext (w := wr) hzr2 (by simp)
            have n1 : ∀ o y, (ext wr none y).cell? ⟨g1, o, none⟩ = wr.cell? ⟨g1, o, none⟩ := fun o y => cell?_ext (w := wr) gl1 (by simp)
            have q1 : (q : Int) < (n : Int) := by omega
            by_cases s1 : (arTo ns b x.tones k).1[q].start = x.tones[k].start
            · have d2 : ((arTo ns b x.tones k).1[q].start == x.tones[k].start) = true := by simpa using s1
              by_cases s2 : (arTo ns b x.tones k).1[q].note = pl
              · have d3 : ((arTo ns b x.tones k).1[q].note == pl) = true := by simpa using s2
                have HX := Lib.hid (last_yes HL.out hq1 (snB_iff.2 ⟨by rw [HT.out]; exact s1, by rw [HT.out]; exact s2⟩))
                clear s1 s2
                go_wp2_with fail
                refine wp_region_ord [(0, true), (1, true), (2, true), (3, true), (4, true), (5, true), (6, true), (7, true), (8, true), (9, true), (10, true), (11, true), (12, true), (13, true), (14, true), (15, true), (16, true), (17, true)] (none) (by kernel_rfl) (by kernel_rfl) ?_
                (repeat (with_reducible refine wpOrd_soft (fun K hK => ?_); simp only [List.getElem?_toArray, List.getElem?_cons_zero, List.getElem?_cons_succ]; first | (go_simp; refine hK _ ?_) | (simp only [undef]; go_simp; refine hK _ ?_); clear hK K))
                (with_reducible refine wpOrd_nil ?_); refine NoPanic.normal ?_
                go_wp2
                go_roundw
                case rel => exact ⟨q + 1, (q : Int), by omega, by go_num, rfl, HX.out, by first | exact HQ.out.drew | exact HQ.out⟩
                case measure => simp [intOf] <;> omega
              · have d3 : ((arTo ns b x.tones k).1[q].note == pl) = false := by simpa using s2
                have HX := Lib.hid (last_no HL.out hq1 (snB_n (by rw [HT.out]; exact s2)))
                clear s1 s2
                go_wp2_with fail
                refine wp_region_ord [(0, true), (1, true), (2, true), (3, true), (4, true), (5, true), (6, true), (7, true), (8, true), (9, true), (10, true), (11, true), (12, true), (13, true), (14, true), (15, true), (16, true), (17, true)] (none) (by kernel_rfl) (by kernel_rfl) ?_
                (repeat (with_reducible refine wpOrd_soft (fun K hK => ?_); simp only [List.getElem?_toArray, List.getElem?_cons_zero, List.getElem?_cons_succ]; first | (go_simp; refine hK _ ?_) | (simp only [undef]; go_simp; refine hK _ ?_); clear hK K))
                (with_reducible refine wpOrd_nil ?_); refine NoPanic.normal ?_
                go_wp2
                go_roundw
                case rel => exact ⟨q + 1, rv, by omega, by go_num, rfl, HX.out, by first | exact HQ.out.drew | exact HQ.out⟩
                case measure => simp [intOf] <;> omega
            · have d2 : ((arTo ns b x.tones k).1[q].start == x.tones[k].start) = false := by simpa using s1
              have HX := Lib.hid (last_no HL.out hq1 (snB_s (by rw [HT.out]; exact s1)))
              clear s1
              go_wp2_with fail
              refine wp_region_ord [(0, true), (1, true), (2, true), (3, true), (4, true), (5, true), (6, true), (7, true), (8, true), (9, true), (10, true), (11, true), (12, true), (13, true), (14, true), (15, true), (16, true), (17, true)] (none) (by kernel_rfl) (by kernel_rfl) ?_
              (repeat (with_reducible refine wpOrd_soft (fun K hK => ?_); simp only [List.getElem?_toArray, List.getElem?_cons_zero, List.getElem?_cons_succ]; first | (go_simp; refine hK _ ?_) | (simp only [undef]; go_simp; refine hK _ ?_); clear hK K))
              (with_reducible refine wpOrd_nil ?_); refine NoPanic.normal ?_
              go_wp2
              go_roundw
              case rel => exact ⟨q + 1, rv, by omega, by go_num, rfl, HX.out, by first | exact HQ.out.drew | exact HQ.out⟩
              case measure => simp [intOf] <;> omega
          · obtain rfl : q = n := by omega
            rcases HL.out with ⟨h1, h2⟩ | ⟨j, hj, hjq, h1, h2⟩
            · have HX := Lib.hid (show arTo ns b x.tones (k + 1) = ((arTo ns b x.tones k).1 ++ [⟨pl, x.tones[k].start, x.tones[k].len⟩], (arTo ns b x.tones k).2 ++ [m]) by rw [HAT.out, ar_new (by have := GP.out; omega) (fun i hi => h2 i hi (by rw [HN.out]; exact hi)), HT.out, HM.out, HMM.out])
              subst h1
              clear h2
              have hzb := HBq.out.size
              go_wp2_with (at_builtin; refine append_one_at rfl _ _ 27 rfl (w.heap.size + 1) 92 _ 3 24 Try.underlying27 info_Tone rfl (by decide) _ q _ rfl HKq.out.r1 [.int .i64 pl, .int .i64 x.tones[k].start, .int .i64 x.tones[k].len] rfl (by simp [Value.oneCell']) wr.heap.size rfl rfl (by omega) (by decide) (by omega) ?_)
              intro a5 f5 w6 ho6 hg6 hb6 hn6
              have hz6 := hb6.size
              have HO6 := Lib.hid ho6
              have HD6 := Lib.hid (Apt.keep HKq.out.ap HKq.out.r2 hg6)
              have HP6 := Lib.hid ((Apt.next HKq.out.ap hn6 (fun z hz => (HKq.out.r2.lt z hz).2)).symm)
              have HB6 := Lib.hid (HBq.out.trans hb6)
              clear ho6 hg6 hn6 hb6
              go_wp2_with (at_builtin; refine append_one_at rfl _ _ 96 rfl (w.heap.size + 1) 4 (.bool false) 1 1 Try.underlying96 info_bool rfl (by decide) _ q _ rfl HD6.out [.bool m] rfl (by simp [Value.oneCell']) w6.heap.size rfl rfl (by omega) (by decide) (by omega) ?_)
              intro a6 f6 w7 ho7 hg7 hb7 hn7
              have HKN := Lib.hid (show Kept w7 (w.heap.size + 1) (.slice a5 (q + 1) f5) (.slice a6 (q + 1) f6) (q + 1) (arTo ns b x.tones (k + 1)) from by
                rw [HX.out]
                exact ⟨by rw [List.length_append, HKq.out.len1]; rfl, by rw [List.length_append, HKq.out.len2]; rfl, by rw [List.flatMap_append]; exact Apt.keep HP6.out HO6.out hg7, by rw [List.map_append]; exact ho7, (Apt.next HP6.out hn7 (fun z hz => (HO6.out.lt z hz).2)).symm⟩)
              have HB7 := Lib.hid (HB6.out.trans hb7)
              have HLN := Lib.hid (show q + 1 = (arTo ns b x.tones (k + 1)).1.length by rw [HX.out, List.length_append, ← HN.out]; rfl)
              clear ho7 hg7 hn7 hb7
              go_wp2
              go_roundw
              case rel => exact ⟨k + 1, q + 1, a5, f5, a6, f6, by omega, by go_num, by congr 1; omega, rfl, rfl, HLN.out, HKN.out, HB7.out⟩
              case measure => simp [intOf] <;> omega
            · subst h1
              have huniq : ∀ i (hi : i < (arTo ns b x.tones k).1.length), i < j → snB (arTon ns b x.tones[k]) (arTo ns b x.tones k).1[i] = false := fun i hi hij => by
                cases e : snB (arTon ns b x.tones[k]) (arTo ns b x.tones k).1[i]
                · rfl
                · have := dst_at (AOK.out k).dst hi hj _ e h2; omega
              obtain ⟨g1, g2, rfl, rfl, gne, gb1, gb2, gl1, gl2, ⟨_, v0, v1, v2⟩, z0, fz1, fz2, hst⟩ := HKq.out.at hjq
              have HST := Lib.hid (fun X M => hst X M)
              have n0 : ∀ o y, (ext wr none y).cell? ⟨wo.heap.size, o, none⟩ = wr.cell? ⟨wo.heap.size, o, none⟩ := fun o y => cell?_ext (w := wr) hzr2 (by simp)
              have n1 : ∀ o y, (ext wr none y).cell? ⟨g1, o, none⟩ = wr.cell? ⟨g1, o, none⟩ := fun o y => cell?_ext (w := wr) gl1 (by simp)
              have p0 := fz1 (j * 3)
              have p1 := fz1 (j * 3 + 1)
              have p2 := fz1 (j * 3 + 2)
              have p3 := fz2 j
              have j0 : ¬ (j : Int) < 0 := by omega
              have j1 : (j : Int) < (q : Int) := by omega
              have j2 : (0 : Int) ≤ (j : Int) := by omega
              have gn2 : ¬ g2 = g1 := fun e => gne e.symm
              have gq1 : ¬ g1 = wo.heap.size := by have := (HK.out.r1.lt g1 rfl).2; omega
              have gq2 : ¬ g2 = wo.heap.size := by have := (HK.out.r2.lt g2 rfl).2; omega
              clear hst fz1 fz2
              by_cases gl : (arTo ns b x.tones k).1[j].len < x.tones[k].len
              · have d3 : decide ((arTo ns b x.tones k).1[j].len < x.tones[k].len) = true := by simpa using gl
                have HX := Lib.hid (show arTo ns b x.tones (k + 1) = ((arTo ns b x.tones k).1.set j ⟨pl, x.tones[k].start, x.tones[k].len⟩, (arTo ns b x.tones k).2.set j m) by rw [HAT.out, ar_set (by have := GP.out; omega) hj h2 huniq gl, HT.out, HM.out, HMM.out])
                clear gl h2 huniq
                go_wp2_with fail
                refine wp_region_ord [(0, true), (1, true), (2, true), (3, true), (4, true), (5, true), (6, true), (7, true)] (none) (by kernel_rfl) (by kernel_rfl) ?_
                (repeat (with_reducible refine wpOrd_soft (fun K hK => ?_); simp only [List.getElem?_toArray, List.getElem?_cons_zero, List.getElem?_cons_succ]; first | (go_simp; refine hK _ ?_) | (simp only [undef]; go_simp; refine hK _ ?_); clear hK K))
                (with_reducible refine wpOrd_nil ?_); refine NoPanic.normal ?_
                go_wp2
                go_roundw
                case rel => exact ⟨k + 1, q, _, c1, _, c2, by omega, by go_num, by congr 1; omega, rfl, rfl, by rw [HX.out, List.length_set]; exact HN.out, by rw [HX.out]; exact (HST.out ⟨pl, x.tones[k].start, x.tones[k].len⟩ m).mono (by (repeat (first | with_reducible exact Below.refl _ _ | with_reducible exact hbw | (with_reducible refine Below.setCell ?_ ?_ _; rotate_left; · first | exact Nat.le_refl _ | omega | (simp; done) | (simp; omega)) | (with_reducible refine Below.alloc ?_ ?_ _; rotate_left; · first | exact Nat.le_refl _ | omega | (simp; done) | (simp; omega)) | with_reducible refine below_drewN ?_ _ | with_reducible refine Below.drew ?_))), by have hbw := HBq.out; (repeat (first | with_reducible exact Below.refl _ _ | with_reducible exact hbw | (with_reducible refine Below.setCell ?_ ?_ _; rotate_left; · first | exact Nat.le_refl _ | omega | (simp; done) | (simp; omega)) | (with_reducible refine Below.alloc ?_ ?_ _; rotate_left; · first | exact Nat.le_refl _ | omega | (simp; done) | (simp; omega)) | with_reducible refine below_drewN ?_ _ | with_reducible refine Below.drew ?_))⟩
                case measure => simp [intOf] <;> omega
              · have d3 : decide ((arTo ns b x.tones k).1[j].len < x.tones[k].len) = false := by simpa using gl
                have HX := Lib.hid (show arTo ns b x.tones (k + 1) = arTo ns b x.tones k by rw [HAT.out, ar_keep (by have := GP.out; omega) hj h2 huniq gl])
                clear gl h2 huniq
                go_wp2_with fail
                refine wp_region_ord [(0, true), (1, true), (2, true), (3, true), (4, true), (5, true), (6, true), (7, true)] (none) (by kernel_rfl) (by kernel_rfl) ?_
                (repeat (with_reducible refine wpOrd_soft (fun K hK => ?_); simp only [List.getElem?_toArray, List.getElem?_cons_zero, List.getElem?_cons_succ]; first | (go_simp; refine hK _ ?_) | (simp only [undef]; go_simp; refine hK _ ?_); clear hK K))
                (with_reducible refine wpOrd_nil ?_); refine NoPanic.normal ?_
                go_wp2
                go_roundw
                case rel => exact ⟨k + 1, q, _, c1, _, c2, by omega, by go_num, by congr 1; omega, rfl, rfl, by rw [HX.out]; exact HN.out, by rw [HX.out]; exact HKq.out.mono (by (repeat (first | with_reducible exact Below.refl _ _ | with_reducible exact hbw | (with_reducible refine Below.setCell ?_ ?_ _; rotate_left; · first | exact Nat.le_refl _ | omega | (simp; done) | (simp; omega)) | (with_reducible refine Below.alloc ?_ ?_ _; rotate_left; · first | exact Nat.le_refl _ | omega | (simp; done) | (simp; omega)) | with_reducible refine below_drewN ?_ _ | with_reducible refine Below.drew ?_))), by have hbw := HBq.out; (repeat (first | with_reducible exact Below.refl _ _ | with_reducible exact hbw | (with_reducible refine Below.setCell ?_ ?_ _; rotate_left; · first | exact Nat.le_refl _ | omega | (simp; done) | (simp; omega)) | (with_reducible refine Below.alloc ?_ ?_ _; rotate_left; · first | exact Nat.le_refl _ | omega | (simp; done) | (simp; omega)) | with_reducible refine below_drewN ?_ _ | with_reducible refine Below.drew ?_))⟩
                case measure => simp [intOf] <;> omega
    · obtain rfl : k = x.tones.length := by omega
      have r0 := cellL HBr.out (by simp) R0.out
      have r1 := cellL HBr.out (by simp) R1.out
      have f0 := frozenL HBr.out (by simp) F0.out
      have f1 := frozenL HBr.out (by simp) F1.out
      have HMC := Lib.hid (show arM x ns b = mvCnt (arTo ns b x.tones x.tones.length).2 n by unfold arM; rw [← HN.out])
      have HDC := Lib.hid (show arD x ns b = (x.tones.length : Int) - (n : Int) by unfold arD; rw [← HN.out])
      go_wp2_with fail
      go_loopw [9, 19] (fun c i wr => ∃ k : Nat, k ≤ n ∧ i = .int .i64 (k : Int) ∧ c = .int .i64 (mvCnt (arTo ns b x.tones x.tones.length).2 k) ∧ wr = wo) (fun _ i _ => n - (intOf i).toNat)
      case atStart => exact ⟨0, Nat.zero_le _, by go_num, rfl, rfl⟩
      case round =>
        obtain ⟨k, hkn, rfl, rfl, rfl⟩ := hrel
        obtain ⟨m0, m1⟩ := mv_bd (arTo ns b x.tones x.tones.length).2 k
        have w1' : IntKind.i64.wrap (mvCnt (arTo ns b x.tones x.tones.length).2 k + 1) = mvCnt (arTo ns b x.tones x.tones.length).2 k + 1 := IntWalk.i64_in _ (by omega)
        by_cases hlt : k < n
        · obtain ⟨g1, g2, rfl, rfl, gne, gb1, gb2, gl1, gl2, _, y0, _, _, _⟩ := HK.out.at hlt
          cases gm : (arTo ns b x.tones x.tones.length).2.getD k false
          · rw [gm] at y0
            have HX := Lib.hid (mv_no gm); clear gm
            go_wp2
            go_roundw
            case rel => exact ⟨k + 1, by omega, by go_num, by rw [HX.out], by first | rfl | trivial⟩
            case measure => simp [intOf] <;> omega
          · rw [gm] at y0
            have HX := Lib.hid (mv_yes gm); clear gm
            go_wp2
            go_roundw
            case rel => exact ⟨k + 1, by omega, by go_num, by rw [HX.out], by first | rfl | trivial⟩
            case measure => simp [intOf] <;> omega
        · obtain rfl : k = n := by omega
          have n0 : ∀ o y, (ext wr (some w.heap.size) y).cell? ⟨kb, o, none⟩ = wr.cell? ⟨kb, o, none⟩ := fun o y => cell?_ext (w := wr) hkb2 (by simp; omega)
          have HTN := Lib.hid HK.out.tons
          have HLN := Lib.hid HK.out.len1
          go_wp2_with fail
          refine wp_region_ord [(0, true), (1, true), (2, true), (3, true), (4, true), (7, true), (8, true), (5, false), (6, true), (9, false), (10, true), (11, true)] (some w.heap.size) (by kernel_rfl) (by kernel_rfl) ?_
          (repeat (with_reducible refine wpOrd_soft (fun K hK => ?_); simp only [List.getElem?_toArray, List.getElem?_cons_zero, List.getElem?_cons_succ]; first | (go_simp; refine hK _ ?_) | (simp only [undef]; go_simp; refine hK _ ?_); clear hK K))
          (with_reducible refine wpOrd_hard ?_; simp only [List.getElem?_toArray, List.getElem?_cons_zero, List.getElem?_cons_succ])
          go_wp2_with fail
          refine (l25Sorted_any _ (arTo ns b x.tones x.tones.length).1 _ (HTN.out.mono (by (repeat (first | with_reducible exact Below.refl _ _ | with_reducible exact hbw | (with_reducible refine Below.setCell ?_ ?_ _; rotate_left; · first | exact Nat.le_refl _ | omega | (simp; done) | (simp; omega)) | (with_reducible refine Below.alloc ?_ ?_ _; rotate_left; · first | exact Nat.le_refl _ | omega | (simp; done) | (simp; omega)) | with_reducible refine below_drewN ?_ _ | with_reducible refine Below.drew ?_)))) (by rw [HLN.out]; omega)).mono ?_
          rintro e w5 ⟨v5, d, rfl, hp, hs5, ho5, hb5⟩
          obtain ⟨a5, c5, rfl⟩ := ho5.form
          have hst5 : Below wr.heap.size wr w5 := undrew hb5
          have hz5 := hst5.size
          have E1 := Lib.hid (show arT x ns b = ⟨x.name, d⟩ from (to_yes hp hs5 (ar_valid OK.out HSET.out hp hs5)).1)
          have HPL := Lib.hid hp.length_eq
          have HO5 := Lib.hid ho5
          have r0 := cellB hst5 r0
          have r1 := cellB hst5 r1
          have f0 := frozenL hst5 (by simp only; omega) f0
          have f1 := frozenL hst5 (by simp only; omega) f1
          have l9 : w.heap.size < w5.heap.size := by omega
          have HS5 := Lib.hid hst5
          have HB5 := Lib.hid (hb0.out.trans (hst5.mono hb0.out.size))
          clear hb5 ho5 hp hs5 hst5
          go_wp2_with fail
          refine ⟨grown_row' HS5.out, ?_⟩
          (repeat (with_reducible refine wpOrd_soft (fun K hK => ?_); simp only [List.getElem?_toArray, List.getElem?_cons_zero, List.getElem?_cons_succ]; first | (go_simp; refine hK _ ?_) | (simp only [undef]; go_simp; refine hK _ ?_); clear hK K))
          (with_reducible refine wpOrd_hard ?_; simp only [List.getElem?_toArray, List.getElem?_cons_zero, List.getElem?_cons_succ])
          go_wp2_with fail
          refine ⟨grown_trans (grown_row' HS5.out) (grown_trans (grown_cell1 _ _ _ _) (grown_cell1 _ _ _ _)), ?_⟩
          (repeat (with_reducible refine wpOrd_soft (fun K hK => ?_); simp only [List.getElem?_toArray, List.getElem?_cons_zero, List.getElem?_cons_succ]; first | (go_simp; refine hK _ ?_) | (simp only [undef]; go_simp; refine hK _ ?_); clear hK K))
          (with_reducible refine wpOrd_nil ?_); refine NoPanic.normal ?_
          go_wp2
          refine bodyPost_ret (v := .tuple #[.agg #[.string x.name, .slice a5 (arTo ns b x.tones x.tones.length).1.length c5], .int .i64 (mvCnt (arTo ns b x.tones x.tones.length).2 k), .int .i64 ((x.tones.length : Int) - k)]) (by simp [results, Try.results42, go_sem, l9, r0, r1, f0, f1]) rfl ⟨_, by rw [HMC.out, HDC.out], ?_, ?_⟩
          · rw [E1.out]
            refine ⟨_, rfl, ?_⟩
            have h3 := HO5.out
            rw [← HPL.out] at h3 ⊢
            refine (h3.touch (B' := w.heap.size) (E' := w.heap.size + 1) ?_ (Or.inr (by simp; omega))).wide (by simp; omega) (by simp)
            have htc := Touch.refl w.heap.size (w.heap.size + 1) w5
            (repeat (first | with_reducible exact Touch.refl _ _ _ | with_reducible exact htc | (with_reducible refine Touch.setCell ?_ ?_ _; rotate_left; · (simp only; omega)) | (with_reducible refine Touch.setNew ?_ ?_ _; rotate_left; · (first | (simp only; omega) | (simp; done) | (simp; omega))) | with_reducible refine Touch.alloc ?_ _ | with_reducible refine Touch.drewN ?_ _ | with_reducible refine Touch.drew ?_))
          · have hbw := HB5.out
            (repeat (first | with_reducible exact Below.refl _ _ | with_reducible exact hbw | (with_reducible refine Below.setCell ?_ ?_ _; rotate_left; · first | exact Nat.le_refl _ | omega | (simp; done) | (simp; omega)) | (with_reducible refine Below.alloc ?_ ?_ _; rotate_left; · first | exact Nat.le_refl _ | omega | (simp; done) | (simp; omega)) | with_reducible refine below_drewN ?_ _ | with_reducible refine Below.drew ?_))
end Go.Proofs.Ytemmnjokojgjaaa
