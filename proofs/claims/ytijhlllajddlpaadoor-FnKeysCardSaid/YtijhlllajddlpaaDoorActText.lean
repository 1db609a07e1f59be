/- The text of an action. Contracts of ActionText of both packages. -/
import Derived.Test.YtijhlllajddlpaaDoorListS
import Derived.Test.YtijhlllajddlpaaDoorListI
import Derived.Test.YtijhlllajddlpaaDoorReg3
import Derived.Test.YtijhlllajddlpaaDoorOneAct
set_option linter.unusedSimpArgs false
set_option linter.unnecessarySimpa false
set_option linter.unusedVariables false
set_option maxRecDepth 100000
namespace Go.Proofs.YtijhlllajddlpaaDoor
open Go.RowKit

def levNums (ls : List Lev) : List Int := ls.flatMap fun l => [l.inn, l.out]
def actL (x : ActD) (k : Nat) : List Int := [x.note, x.slack, x.weight] ++ levNums (x.levs.take k)
theorem levNums_len (ls : List Lev) : (levNums ls).length = 2 * ls.length := by
  induction ls with
  | nil => rfl
  | cons l ls ih => simp only [levNums, List.flatMap_cons, List.length_append, List.length_cons, List.length_nil] at *; omega
theorem actL_len (x : ActD) (k : Nat) (h : k ≤ x.levs.length) : (actL x k).length = 3 + 2 * k := by
  unfold actL
  rw [List.length_append, levNums_len, List.length_take, Nat.min_eq_left h]; rfl
theorem actL_step (x : ActD) {k : Nat} (h : k < x.levs.length) : actL x (k + 1) = actL x k ++ [x.levs[k].inn, x.levs[k].out] := by
  unfold actL levNums
  rw [List.take_succ_eq_append_getElem h, List.flatMap_append]
  simp
theorem actL_vals {x : ActD} (h : ActOk x) : ∀ n ∈ actL x x.levs.length, isVal n := by
  intro n hn
  unfold actL levNums at hn
  rw [List.take_length] at hn
  have h1 := h.note; have h2 := h.slack; have h3 := h.weight
  unfold slackOk at h2
  rcases List.mem_append.1 hn with hn | hn
  · simp only [List.mem_cons, List.not_mem_nil, or_false] at hn
    unfold isVal
    rcases hn with rfl | rfl | rfl <;> omega
  · obtain ⟨l, hl, hn⟩ := List.mem_flatMap.1 hn
    have ha := h.arms l hl
    unfold arm at ha
    simp only [List.mem_cons, List.not_mem_nil, or_false] at hn
    unfold isVal
    rcases hn with rfl | rfl <;> omega
/-- The text of an action, the empty one where it is not right. -/
def actT (x : ActD) : ByteArray := if validActB x then listU (actL x x.levs.length) else bytesB []
theorem actT_yes {x : ActD} (h : validActB x = true) : actT x = listU (actL x x.levs.length) := by unfold actT; rw [h]; rfl
theorem actT_no {x : ActD} (h : validActB x = false) : actT x = bytesB [] := by unfold actT; rw [h]; rfl
theorem actT_list {x : ActD} (h : ActOk x) : listT (actL x x.levs.length) = listU (actL x x.levs.length) :=
  listT_yes (by rw [actL_len x _ (Nat.le_refl _)]; have := h.len; omega) (decide_eq_true (actL_vals h))
theorem owns_lit1 (w : World) (cs : List Value) (e : TypeId) (n base : Nat) (hn : cs.length = n) (h : base ≤ w.heap.size) (hm : n ≤ maxLen) : (w.alloc (.cells cs.toArray e)).ownsRow base e 1 (.slice (some ⟨w.heap.size, 0, none⟩) n n) n cs := by
  subst hn
  exact ⟨by simp, .inr ⟨w.heap.size, cs.length, cs.toArray, rfl, h, heap_alloc_new w _, Nat.le_refl _, hm, by simp, by simp⟩⟩
theorem Box0 (w : World) {w1 : World} (e : TypeId) {a b c d : Value} (hb : Below (w.alloc (.cells #[a, b, c, d] e)).heap.size (w.alloc (.cells #[a, b, c, d] e)) w1) :
    w1.cell? ⟨w.heap.size, 0, none⟩ = some a ∧ w1.cell? ⟨w.heap.size, 1, none⟩ = some b ∧ w1.cell? ⟨w.heap.size, 2, none⟩ = some c ∧ w1.cell? ⟨w.heap.size, 3, none⟩ = some d :=
  ⟨cellB hb (by simp [go_sem]), cellB hb (by simp [go_sem]), cellB hb (by simp [go_sem]), cellB hb (by simp [go_sem])⟩
theorem owns_drew {w : World} {base : Nat} {e : TypeId} {size n : Nat} {v : Value} {cs : List Value} (h : w.ownsRow base e size v n cs) : w.drew.ownsRow base e size v n cs := h

set_option maxHeartbeats 2000000 in
theorem l24Text_any (b off : Nat) (lv : Value) (x : ActD) (w : World) (h : ActIn w b off lv x) (hb : b < w.heap.size) (hok : ActOk x) :
    Calls Tryd.prog 25 #[.pointer (some ⟨b, off, none⟩)] w fun e w' => e = .returned (.string (listU (actL x x.levs.length))) ∧ Below w.heap.size w w' := by
  obtain ⟨c0, c1, c2, c3, hlv⟩ := h
  obtain ⟨a, ca, rfl, hca, hcm, _⟩ := id hlv
  have hl6 := hok.len
  have OK := Lib.hid hok
  have n0 : ∀ y, (ext w.drew none y).cell? ⟨b, off, none⟩ = some (.int .i64 x.note) := fun y => (cell?_ext (w := w.drew) (by simpa using hb) (by simp)).trans c0
  have n2 : ∀ y, (ext w.drew none y).cell? ⟨b, off + 2, none⟩ = some (.int .i64 x.slack) := fun y => (cell?_ext (w := w.drew) (by simpa using hb) (by simp)).trans c2
  have n3 : ∀ y, (ext w.drew none y).cell? ⟨b, off + 3, none⟩ = some (.int .i64 x.weight) := fun y => (cell?_ext (w := w.drew) (by simpa using hb) (by simp)).trans c3
  clear hca hcm hok
  go_enter Tryd.func25, Tryd.ntmps25
  go_wp2_with fail
  refine wp_region_ordG [(0, 1), (1, 1), (2, 1), (3, 1), (4, 1), (5, 1), (6, 1), (7, 1), (8, 1), (9, 1), (10, 1), (11, 1), (12, 0), (13, 1)] [12] (none) (by kernel_rfl) (by kernel_rfl) ?_
  (repeat ((first | with_reducible refine wpOrdG_soft (fun K hK => ?_) | with_reducible refine wpOrdG_pre (fun K hK => ?_)); simp only [List.getElem?_toArray, List.getElem?_cons_zero, List.getElem?_cons_succ]; first | (go_simp; refine hK _ ?_) | (simp only [undef]; go_simp; refine hK _ ?_); clear hK K))
  (with_reducible refine wpOrdG_hard ?_; simp only [List.getElem?_toArray, List.getElem?_cons_zero, List.getElem?_cons_succ])
  go_wp2_with fail
  refine And.intro (World.grownBy_alloc _ _ _) ?_
  (repeat ((first | with_reducible refine wpOrdG_soft (fun K hK => ?_) | with_reducible refine wpOrdG_pre (fun K hK => ?_)); simp only [List.getElem?_toArray, List.getElem?_cons_zero, List.getElem?_cons_succ]; first | (go_simp; refine hK _ ?_) | (simp only [undef]; go_simp; refine hK _ ?_); clear hK K))
  (with_reducible refine wpOrdG_nil ?_); refine NoPanic.normal ?_
  clear n0 n2 n3
  have HO0 := Lib.hid (show (w.alloc (.cells #[.int .i64 x.note, .int .i64 x.slack, .int .i64 x.weight] 2)).drew.ownsRow w.heap.size 2 1 (.slice (some ⟨w.heap.size, 0, none⟩) 3 3) 3 ((actL x 0).map (Value.int .i64)) from
    owns_drew (owns_lit1 w [.int .i64 x.note, .int .i64 x.slack, .int .i64 x.weight] _ 3 _ rfl (Nat.le_refl _) (by simp [maxLen])))
  have HB0 := Lib.hid (show Below w.heap.size w (w.alloc (.cells #[.int .i64 x.note, .int .i64 x.slack, .int .i64 x.weight] 2)).drew from by (repeat (first | with_reducible exact Below.refl _ _ | with_reducible exact hbw | (with_reducible refine Below.setCell ?_ ?_ _; rotate_left; · first | exact Nat.le_refl _ | omega | (simp; done) | (simp; omega)) | (with_reducible refine Below.alloc ?_ ?_ _; rotate_left; · first | exact Nat.le_refl _ | omega | (simp; done) | (simp; omega)) | with_reducible refine below_drewN ?_ _ | with_reducible refine Below.drew ?_)))
  go_wp2_with fail
  go_loopw [3, 4] (fun o i wr => ∃ (k n : Nat) (a' : Option Addr) (c' : Nat), k ≤ x.levs.length ∧ n = 3 + 2 * k ∧ i = .int .i64 (k : Int) ∧ o = .slice a' n c' ∧ wr.ownsRow w.heap.size 2 1 (.slice a' n c') n ((actL x k).map (Value.int .i64)) ∧ Below w.heap.size w wr) (fun _ i _ => x.levs.length - (intOf i).toNat)
  case atStart => exact ⟨0, 3, _, _, Nat.zero_le _, rfl, by go_num, rfl, HO0.out, HB0.out⟩
  case round =>
    obtain ⟨k, n, a', c', hk, hn, rfl, rfl, ho, hbw⟩ := hrel
    have hz := hbw.size
    have HO := Lib.hid ho; have HB := Lib.hid hbw; have HN := Lib.hid hn
    have c1 := cellB hbw c1
    have hlr := Levs.mono hlv hbw
    have hn15 : n ≤ 15 := by omega
    clear HO0 HB0 ho hbw hn
    have hbr : b < wr.heap.size := by omega
    by_cases hlt : k < x.levs.length
    · obtain ⟨b1, o1, rfl, hB1, u0, u1⟩ := hlr.at hlt
      have hB0 : b1 < w.heap.size := by
        obtain ⟨b2, o2, e2, hB2, _, _⟩ := hlv.at hlt
        simp only [Option.some.injEq, Addr.mk.injEq, and_true] at e2
        rw [e2.1]; exact hB2
      have n1 : ∀ y, (extT wr.drew w.heap.size wr.heap.size y).cell? ⟨b, off + 1, none⟩ = some (.slice (some ⟨b1, o1, none⟩) x.levs.length ca) := fun y => (cell?_extT_lo (w := wr.drew) (by simpa using hbr) hb).trans c1
      have n2 : ∀ y, (extT wr.drew w.heap.size wr.heap.size y).cell? ⟨b1, o1 + k * 2, none⟩ = some (.int .i64 x.levs[k].inn) := fun y => (cell?_extT_lo (w := wr.drew) (by simpa using hB1) hB0).trans u0
      have n3 : ∀ y, (extT wr.drew w.heap.size wr.heap.size y).cell? ⟨b1, o1 + k * 2 + 1, none⟩ = some (.int .i64 x.levs[k].out) := fun y => (cell?_extT_lo (w := wr.drew) (by simpa using hB1) hB0).trans u1
      have HS := Lib.hid (actL_step x hlt)
      clear hlr
      go_wp2_with fail
      refine wp_region_ord3 [(0, 1), (1, 1), (2, 1), (3, 1), (4, 1), (5, 1), (6, 1), (7, 1), (8, 1), (9, 1), (10, 1), (11, 1), (12, 1), (13, 1), (14, 1), (15, 1), (16, 1), (17, 4), (18, 0), (19, 1)] [17, 18] [18] (w.heap.size) (wr.heap.size) (by kernel_rfl) (by kernel_rfl) ?_
      (repeat ((first | with_reducible refine wpOrd3_soft (fun K hK => ?_) | with_reducible refine wpOrd3_pre (fun K hK => ?_) | with_reducible refine wpOrd3_late (fun K hK => ?_)); simp only [List.getElem?_toArray, List.getElem?_cons_zero, List.getElem?_cons_succ]; first | (go_simp; refine hK _ ?_) | (simp only [undef]; go_simp; refine hK _ ?_); clear hK K))
      ((first | with_reducible refine wpOrd3_hard ?_ | with_reducible refine wpOrd3_new ?_); simp only [List.getElem?_toArray, List.getElem?_cons_zero, List.getElem?_cons_succ])
      go_wp2_with fail
      refine And.intro (World.grownBy_alloc _ _ _) ?_
      (repeat ((first | with_reducible refine wpOrd3_soft (fun K hK => ?_) | with_reducible refine wpOrd3_pre (fun K hK => ?_) | with_reducible refine wpOrd3_late (fun K hK => ?_)); simp only [List.getElem?_toArray, List.getElem?_cons_zero, List.getElem?_cons_succ]; first | (go_simp; refine hK _ ?_) | (simp only [undef]; go_simp; refine hK _ ?_); clear hK K))
      ((first | with_reducible refine wpOrd3_hard ?_ | with_reducible refine wpOrd3_new ?_); simp only [List.getElem?_toArray, List.getElem?_cons_zero, List.getElem?_cons_succ])
      obtain ⟨wd, hwd⟩ : ∃ wd : World, wd = (wr.alloc (.cells #[.int .i64 x.levs[k].inn, .int .i64 x.levs[k].out] 2)).drew := ⟨_, rfl⟩
      have hal : Below wr.heap.size wr wd := by rw [hwd]; (repeat (first | with_reducible exact Below.refl _ _ | with_reducible exact hbw | (with_reducible refine Below.setCell ?_ ?_ _; rotate_left; · first | exact Nat.le_refl _ | omega | (simp; done) | (simp; omega)) | (with_reducible refine Below.alloc ?_ ?_ _; rotate_left; · first | exact Nat.le_refl _ | omega | (simp; done) | (simp; omega)) | with_reducible refine below_drewN ?_ _ | with_reducible refine Below.drew ?_))
      have hsl : Sl wd (.slice (some ⟨wr.heap.size, 0, none⟩) 2 2) 2 [.int .i64 x.levs[k].inn, .int .i64 x.levs[k].out] := by
        rw [hwd]
        exact Sl.of_owns (owns_drew (owns_lit1 wr [.int .i64 x.levs[k].inn, .int .i64 x.levs[k].out] _ 2 0 rfl (Nat.zero_le _) (by simp [maxLen])))
      have hT0 : Touch w.heap.size wr.heap.size wr.drew wd := by rw [hwd]; exact (Touch.refl _ _ wr.drew).alloc _
      have hzd := hal.size
      have HOd := Lib.hid (owns_mono HO.out hal)
      rw [← hwd]
      refine append_all rfl _ _ 52 rfl w.heap.size 2 (.int .i64 0) 1 8 Tryd.underlying52 info_int rfl (by decide) _ n _ rfl HOd.out _ 2 [.int .i64 x.levs[k].inn, .int .i64 x.levs[k].out] rfl hsl rfl (by simp [Value.oneCell']) (by omega) (by decide) (by omega) ?_
      intro a7 c7 w7 ho7 hg7 hb7
      have hz7 := hg7.size
      have HN7 := Lib.hid (show w7.ownsRow w.heap.size 2 1 (.slice a7 (n + 2) c7) (n + 2) ((actL x (k + 1)).map (Value.int .i64)) from by rw [HS.out, List.map_append]; exact ho7)
      have HB7 := Lib.hid ((HB.out.trans (hal.mono (by omega))).trans hb7)
      have HT7 := Lib.hid (show Touch w.heap.size wr.heap.size wr.drew w7 from hT0.trans (Touch.of_grown hg7 fun q hq => by have := HO.out.lt q hq; omega))
      clear ho7 hg7 hb7 hT0 hsl hal hwd n1 n2 n3 HOd
      refine And.intro HT7.out ?_
      (repeat ((first | with_reducible refine wpOrd3_soft (fun K hK => ?_) | with_reducible refine wpOrd3_pre (fun K hK => ?_) | with_reducible refine wpOrd3_late (fun K hK => ?_)); simp only [List.getElem?_toArray, List.getElem?_cons_zero, List.getElem?_cons_succ]; first | (go_simp; refine hK _ ?_) | (simp only [undef]; go_simp; refine hK _ ?_); clear hK K))
      (with_reducible refine wpOrd3_nil ?_); refine NoPanic.normal ?_
      go_wp2
      go_roundw
      case rel => exact ⟨k + 1, n + 2, a7, c7, by omega, by have := HN.out; omega, by go_num, rfl, HN7.out, HB7.out⟩
      case measure => simp [intOf] <;> omega
    · obtain rfl : k = x.levs.length := by omega
      have HL := Lib.hid (actL_len x x.levs.length (Nat.le_refl _))
      have HI := Lib.hid (show Ints wr (.slice a' n c') (actL x x.levs.length) from by
        have e : (actL x x.levs.length).length = n := by rw [HL.out]; exact HN.out.symm
        have := Sl.of_owns HO.out
        unfold Ints; rw [e]; exact this)
      have HV := Lib.hid (actL_vals OK.out)
      clear hlr
      go_wp2_with fail
      refine (l01List_any _ (actL x x.levs.length) _ HI.out (by have := HL.out; omega) (fun n hn => i64_val (HV.out n hn))).mono ?_
      rintro e w1 ⟨rfl, hb1⟩
      have HB1 := Lib.hid (HB.out.trans (hb1.mono hz))
      clear hb1
      go_wp2
      go_ret
      exact ⟨rfl, HB1.out⟩

theorem specActionText_any (v : Value) (x : ActD) (w : World) (h : RdAct w v x) (_ : x.ok) (_ : x.levs.length ≤ 1048576) :
    Calls Tryd.prog 7 #[v] w fun e w' => e = .returned (.string (actT x)) ∧ Below w.heap.size w w' := by
  obtain ⟨lv, rfl, hlv⟩ := h
  have hA : ActIn (w.alloc (.cells #[.int .i64 x.note, lv, .int .i64 x.slack, .int .i64 x.weight] 29)) w.heap.size 0 lv x := ⟨by simp [go_sem], by simp [go_sem], by simp [go_sem], by simp [go_sem], hlv.mono (belowA _ _)⟩
  obtain ⟨b, hb⟩ : ∃ b, b = validActB x := ⟨_, rfl⟩
  have HA := Lib.hid hA
  cases b
  · have E := Lib.hid (actT_no hb.symm)
    have HV := Lib.hid hb.symm
    clear hb hA
    go_enter Tryd.func7, Tryd.ntmps7
    go_wp2_with fail
    refine (l24One_any _ 0 lv x _ HA.out).mono ?_
    rw [HV.out]
    rintro e w1 ⟨rfl, rfl⟩
    go_wp2
    go_ret
    refine ⟨by rw [E.out]; rfl, ?_⟩
    (repeat (first | with_reducible exact Below.refl _ _ | with_reducible exact hbw | (with_reducible refine Below.setCell ?_ ?_ _; rotate_left; · first | exact Nat.le_refl _ | omega | (simp; done) | (simp; omega)) | (with_reducible refine Below.alloc ?_ ?_ _; rotate_left; · first | exact Nat.le_refl _ | omega | (simp; done) | (simp; omega)) | with_reducible refine below_drewN ?_ _ | with_reducible refine Below.drew ?_))
  · have E := Lib.hid (actT_yes hb.symm)
    have HV := Lib.hid hb.symm
    have HK := Lib.hid (show ActOk x by have := hb.symm; simpa [validActB] using this)
    clear hb hA
    go_enter Tryd.func7, Tryd.ntmps7
    go_wp2_with fail
    refine (l24One_any _ 0 lv x _ HA.out).mono ?_
    rw [HV.out]
    rintro e w1 ⟨rfl, rfl⟩
    go_wp2_with fail
    refine (l24Text_any _ 0 lv x _ HA.out (by simp) HK.out).mono ?_
    rintro e w2 ⟨rfl, hb2⟩
    have HB := Lib.hid (Below.trans (belowA w (.cells #[.int .i64 x.note, lv, .int .i64 x.slack, .int .i64 x.weight] 29)) (hb2.mono (by simp)))
    clear hb2
    go_wp2
    go_ret
    exact ⟨by rw [E.out]; rfl, HB.out⟩

set_option maxHeartbeats 2000000 in
theorem implActionText_any (v : Value) (x : ActD) (w : World) (h : RdAct w v x) (_ : x.ok) (_ : x.levs.length ≤ 1048576) (ht : Tab w) :
    Calls Tryd.prog 9 #[v] w fun e w' => e = .returned (.string (actT x)) ∧ Below w.heap.size w w' := by
  obtain ⟨lv, rfl, hlv⟩ := h
  obtain ⟨a, ca, rfl, hca, hcm, _⟩ := id hlv
  have HLV := Lib.hid hlv
  clear hca hcm
  obtain ⟨b, hb⟩ : ∃ b, b = validActB x := ⟨_, rfl⟩
  cases b
  · have E := Lib.hid (actT_no hb.symm)
    have HV := Lib.hid hb.symm
    clear hb
    go_enter Tryd.func9, Tryd.ntmps9
    go_wp2_with fail
    refine (implValidAct_any _ (.slice a x.levs.length ca) x _ ⟨rfl, HLV.out.mono (belowA _ _)⟩).mono ?_
    rw [HV.out]
    rintro e w1 ⟨rfl, hb1⟩
    have HB := Lib.hid (Below.trans (belowA w (.cells #[.int .i64 x.note, .slice a x.levs.length ca, .int .i64 x.slack, .int .i64 x.weight] 29)) (hb1.mono (by simp)))
    clear hb1
    go_wp2
    go_ret
    exact ⟨by rw [E.out]; rfl, HB.out⟩
  have E := Lib.hid (actT_yes hb.symm)
  have HV := Lib.hid hb.symm
  have HK := Lib.hid (show ActOk x by have := hb.symm; simpa [validActB] using this)
  have hl6 := HK.out.len
  clear hb
  go_enter Tryd.func9, Tryd.ntmps9
  go_wp2_with fail
  refine (implValidAct_any _ (.slice a x.levs.length ca) x _ ⟨rfl, HLV.out.mono (belowA _ _)⟩).mono ?_
  rw [HV.out]
  rintro e w1 ⟨rfl, hb1⟩
  have hz1 := hb1.size
  simp at hz1
  have HB1 := Lib.hid (Below.trans (belowA w (.cells #[.int .i64 x.note, .slice a x.levs.length ca, .int .i64 x.slack, .int .i64 x.weight] 29)) (hb1.mono (by simp)))
  have BX := (Box0 w 29 hb1)
  obtain ⟨y0, y1, y2, y3⟩ := BX
  have hlv1 := HLV.out.mono (Below.trans (belowA w (.cells #[.int .i64 x.note, .slice a x.levs.length ca, .int .i64 x.slack, .int .i64 x.weight] 29)) (hb1.mono (by simp)))
  have HLV1 := Lib.hid hlv1
  have HT1 := Lib.hid (ht.mono HB1.out)
  have hw1 : w.heap.size < w1.heap.size := by omega
  have HO0 := Lib.hid (show (w1.alloc (.cells #[.int .i64 x.note, .int .i64 x.slack, .int .i64 x.weight] 2)).ownsRow w1.heap.size 2 1 (.slice (some ⟨w1.heap.size, 0, none⟩) 3 3) 3 ((actL x 0).map (Value.int .i64)) from
    owns_lit1 w1 [.int .i64 x.note, .int .i64 x.slack, .int .i64 x.weight] _ 3 _ rfl (Nat.le_refl _) (by simp [maxLen]))
  clear hb1 hlv1
  go_wp2_with fail
  go_loopw [3, 5, 19] (fun o _ i wr => ∃ (k n : Nat) (a' : Option Addr) (c' : Nat), k ≤ x.levs.length ∧ n = 3 + 2 * k ∧ i = .int .i64 (k : Int) ∧ o = .slice a' n c' ∧ wr.ownsRow w1.heap.size 2 1 (.slice a' n c') n ((actL x k).map (Value.int .i64)) ∧ Below w1.heap.size w1 wr) (fun _ _ i _ => x.levs.length - (intOf i).toNat)
  case atStart => exact ⟨0, 3, _, _, Nat.zero_le _, rfl, by go_num, rfl, HO0.out, belowA _ _⟩
  case round =>
    obtain ⟨k, n, a', c', hk, hn, rfl, rfl, ho, hbw⟩ := hrel
    have hz := hbw.size
    have HO := Lib.hid ho; have HB := Lib.hid hbw; have HN := Lib.hid hn
    have hlr := HLV1.out.mono hbw
    have hn15 : n ≤ 15 := by omega
    clear HO0 ho hbw hn
    by_cases hlt : k < x.levs.length
    · obtain ⟨b1, o1, rfl, hB1, u0, u1⟩ := hlr.at hlt
      have HS := Lib.hid (actL_step x hlt)
      have HO1 := Lib.hid (owns_mono HO.out (belowA wr (.cells #[.int .i64 x.levs[k].inn, .int .i64 x.levs[k].out] 54)))
      have hsl := Lib.hid (show Sl ((wr.alloc (.cells #[.int .i64 x.levs[k].inn, .int .i64 x.levs[k].out] 54)).alloc (.cells #[.int .i64 x.levs[k].inn, .int .i64 x.levs[k].out] 2)) (.slice (some ⟨wr.heap.size + 1, 0, none⟩) 2 2) 2 [.int .i64 x.levs[k].inn, .int .i64 x.levs[k].out] from by
        have := Sl.of_owns (owns_lit1 (wr.alloc (.cells #[.int .i64 x.levs[k].inn, .int .i64 x.levs[k].out] 54)) [.int .i64 x.levs[k].inn, .int .i64 x.levs[k].out] 2 2 0 rfl (Nat.zero_le _) (by simp [maxLen]))
        simpa using this)
      have HO2 := Lib.hid (owns_mono HO1.out (belowA _ (.cells #[.int .i64 x.levs[k].inn, .int .i64 x.levs[k].out] 2)))
      clear hlr
      go_wp2_with (at_builtin; refine append_all rfl _ _ 52 rfl w1.heap.size 2 (.int .i64 0) 1 8 Tryd.underlying52 info_int rfl (by decide) _ n _ rfl HO2.out _ 2 [.int .i64 x.levs[k].inn, .int .i64 x.levs[k].out] rfl hsl.out rfl (by simp [Value.oneCell']) (by omega) (by decide) (by simp; omega) ?_)
      intro a7 c7 w7 ho7 hg7 hb7
      have HN7 := Lib.hid (show w7.ownsRow w1.heap.size 2 1 (.slice a7 (n + 2) c7) (n + 2) ((actL x (k + 1)).map (Value.int .i64)) from by rw [HS.out, List.map_append]; exact ho7)
      have HB7 := Lib.hid ((HB.out.trans (show Below w1.heap.size wr _ from Below.trans (Below.mono (belowA wr _) hz) (Below.mono (belowA _ _) (by simp; omega)))).trans hb7)
      clear ho7 hg7 hb7 hsl HO2 HO1
      go_wp2
      go_roundw
      case rel => exact ⟨k + 1, n + 2, a7, c7, by omega, by have := HN.out; omega, by go_num, rfl, HN7.out, HB7.out⟩
      case measure => simp [intOf] <;> omega
    · obtain rfl : k = x.levs.length := by omega
      have HL := Lib.hid (actL_len x x.levs.length (Nat.le_refl _))
      have HI := Lib.hid (show Ints wr (.slice a' n c') (actL x x.levs.length) from by
        have e : (actL x x.levs.length).length = n := by rw [HL.out]; exact HN.out.symm
        have := Sl.of_owns HO.out
        unfold Ints; rw [e]; exact this)
      have HV' := Lib.hid (actL_vals HK.out)
      have HT2 := Lib.hid (HT1.out.mono (HB.out))
      clear hlr
      go_wp2_with fail
      refine (ListText_any _ (actL x x.levs.length) _ HI.out (by have := HL.out; omega) (fun n hn => i64_val (HV'.out n hn)) HT2.out).mono ?_
      rintro e w2 ⟨rfl, hb2⟩
      have HB2 := Lib.hid (HB1.out.trans ((HB.out.trans (hb2.mono hz)).mono (by omega)))
      have EL := Lib.hid (actT_list HK.out)
      clear hb2
      go_wp2
      go_ret
      exact ⟨by rw [E.out, ← EL.out]; rfl, HB2.out⟩

end Go.Proofs.YtijhlllajddlpaaDoor
