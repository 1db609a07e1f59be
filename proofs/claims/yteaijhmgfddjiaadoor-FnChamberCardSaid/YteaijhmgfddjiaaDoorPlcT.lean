/- A place as text, and read back. -/
import Derived.Test.YteaijhmgfddjiaaDoorMove
import Derived.Test.YteaijhmgfddjiaaDoorReadListI
set_option linter.unusedSimpArgs false
set_option linter.unnecessarySimpa false
set_option linter.unusedVariables false
set_option maxRecDepth 100000
namespace Go.Proofs.YteaijhmgfddjiaaDoor
open Go.RowKit

theorem cut_hitP {c : UInt8} {a r : List UInt8} (h : free c a) : Lib.cut (a ++ c :: r) [c] = (a, r, true) := by
  have h1 := Lib.index_one (a ++ c :: r) c
  have hi : Lib.index (a ++ c :: r) [c] = (a.length : Int) := by
    rcases Lib.index_spec (a ++ c :: r) [c] with ⟨hm, _⟩ | ⟨i, hi, hil, _, _⟩
    · exfalso
      have hn := Lib.indexByte_none (l := a ++ c :: r) (c := c) (by rw [← h1]; exact hm)
      exact hn a.length (by simp)
    · obtain ⟨hat, hbe⟩ := Lib.indexByte_some (l := a ++ c :: r) (c := c) (o := i) (by rw [← h1]; exact hi)
      rw [hi]
      rcases Nat.lt_trichotomy i a.length with g | g | g
      · exfalso
        rw [List.getElem?_append_left g, List.getElem?_eq_getElem g] at hat
        exact h _ (List.getElem_mem g) (Option.some.inj hat)
      · rw [g]
      · exact absurd (by simp) (hbe a.length g)
  unfold Lib.cut
  rw [if_pos (by rw [hi]; omega), hi]
  simp
theorem CutQ_any (p : List UInt8) (c : UInt8) (w : World) (hs : (bytesB p).size ≤ 1048576) (hL : Lay w) :
    Calls Tryd.prog 24 #[.string (bytesB p), .string ⟨#[c]⟩] w fun e w' => ∃ ok, e = .returned (.tuple #[.string (bytesB (Lib.cut p [c]).1), .string (bytesB (Lib.cut p [c]).2.1), .bool ok]) ∧ Below w.heap.size w w' := by
  obtain ⟨m, hm⟩ := hL.len
  have h := Tryd.strings_Cut (bytesB p) ⟨#[c]⟩ m w (by omega) hm
  rw [bytesB_list, show (⟨#[c]⟩ : ByteArray).data.toList = [c] from rfl] at h
  refine h.mono ?_
  rintro e w' ⟨rfl, n, rfl⟩
  exact ⟨_, rfl, below_drewN (Below.refl _ _) _⟩
theorem list_back {xs : List Int} (hne : xs ≠ []) (hl : xs.length ≤ 64) (hvals : ∀ n ∈ xs, isVal n) : rlB (listU xs) = true ∧ rlV (listU xs) = xs := by
  have hs : listU xs = bytesB (commaT xs) := if_neg hne
  have hp : pieces (bytesB (commaT xs)) = xs.map Lib.itoa := by
    unfold pieces
    rw [bytesB_list]
    exact split_join _ (by simpa using hne) fun p hp => by
      obtain ⟨n, _, rfl⟩ := List.mem_map.1 hp
      exact itoa_free n
  have hnum : ∀ n ∈ xs, numOk (Lib.itoa n) = true ∧ numV (Lib.itoa n) = n := fun n hn => by
    have := hvals n hn
    unfold isVal at this
    exact itoa_num (by omega) (by omega)
  have hnd : ¬ bytesB (commaT xs) = bytesB [45] := fun e => by
    rw [e] at hp
    have e2 : pieces (bytesB [45]) = [[45]] := by unfold pieces; rw [bytesB_list]; rfl
    rw [e2] at hp
    cases xs with
    | nil => exact hne rfl
    | cons x ys =>
      simp only [List.map_cons, List.cons.injEq] at hp
      have := (hnum x (List.mem_cons_self ..)).1
      rw [← hp.1] at this
      revert this; decide
  have hnb : numsB (pieces (bytesB (commaT xs))) = true := by
    rw [hp]
    refine decide_eq_true ⟨by rw [List.length_map]; omega, fun p hp => ?_⟩
    obtain ⟨n, hn, rfl⟩ := List.mem_map.1 hp
    exact ⟨(hnum n hn).1, by rw [(hnum n hn).2]; exact hvals n hn⟩
  obtain ⟨r1, r2⟩ := rl_yes hnd hnb
  rw [hs]
  refine ⟨r1, ?_⟩
  rw [r2, hp, List.map_map]
  conv => rhs; rw [← List.map_id xs]
  exact List.map_congr_left fun n hn => (hnum n hn).2

def nums (x : PlcD) : List Int := [x.x, x.y, x.z, x.reach]
theorem nums_val {x : PlcD} (h : plcOk x) : ∀ n ∈ nums x, isVal n := fun n hn => by
  obtain ⟨_, h1, h2, h3, h4⟩ := h
  simp only [nums, List.mem_cons, List.not_mem_nil, or_false] at hn
  unfold isVal; omega
def plcT (x : PlcD) : ByteArray := x.bell ++ ⟨#[32]⟩ ++ listU (nums x)
theorem listU_len {xs : List Int} (h : ∀ n ∈ xs, isVal n) : (listU xs).size ≤ 22 * xs.length + 1 := by
  unfold listU
  split
  · simp [bytesB, ByteArray.size]
  · rw [bytesB_size]; have := commaT_len xs fun n hn => i64_val (h n hn); omega
theorem plcT_size {x : PlcD} (h : plcOk x) : (plcT x).size ≤ 200 := by
  have h1 : x.bell.size ≤ 10 := ((NameOk.iff' _).1 h.1).2.1
  have h2 := listU_len (nums_val h)
  have e : (plcT x).size = x.bell.size + 1 + (listU (nums x)).size := by
    unfold plcT; rw [ByteArray.size_append, ByteArray.size_append]; rfl
  have h3 : (nums x).length = 4 := rfl
  omega
/-- A name has no blank. -/
theorem name_free {s : ByteArray} (h : NameOk s) : free 32 s.data.toList := fun b hb e => by
  obtain ⟨_, _, _, h4⟩ := (NameOk.iff' _).1 h
  obtain ⟨i, hi, rfl⟩ := List.getElem_of_mem hb
  have hs : i < s.size := by simpa using hi
  have hbb : byteAt s i = 32 := by
    unfold byteAt
    rw [List.getD_eq_getElem?_getD, List.getElem?_eq_getElem hi]
    simp [e]
  have := h4 i hs
  rw [hbb] at this
  unfold smallC digitC at this; omega
theorem plcT_cut {x : PlcD} (h : plcOk x) : bytesB (plcT x).data.toList = plcT x ∧ bytesB (Lib.cut (plcT x).data.toList [32]).1 = x.bell ∧ bytesB (Lib.cut (plcT x).data.toList [32]).2.1 = listU (nums x) := by
  have e : (plcT x).data.toList = x.bell.data.toList ++ 32 :: (listU (nums x)).data.toList := by
    unfold plcT; simp
  rw [e, cut_hitP (name_free h.1)]
  exact ⟨by rw [← e, bytesB_of], bytesB_of _, bytesB_of _⟩

set_option maxHeartbeats 2000000 in
theorem PlaceText_any (x : PlcD) (w : World) (ok : plcOk x) (hL : Lay w) :
    Calls Tryd.prog 13 #[.agg #[.string x.bell, .int .i64 x.x, .int .i64 x.y, .int .i64 x.z, .int .i64 x.reach]] w fun e w' => e = .returned (.string (plcT x)) ∧ Below w.heap.size w w' := by
  have hsb : x.bell.size ≤ 10 := ((NameOk.iff' _).1 ok.1).2.1
  have OK := Lib.hid ok; have HL := Lib.hid hL
  have HV := Lib.hid (nums_val ok)
  have hll := listU_len (nums_val ok)
  have h4 : (nums x).length = 4 := rfl
  rw [h4] at hll
  obtain ⟨lu, hlu⟩ : ∃ lu, lu = listU (nums x) := ⟨_, rfl⟩
  rw [← hlu] at hll
  have HLT := Lib.hid (show listT (nums x) = lu by rw [hlu]; exact listT_yes (by rw [h4]; omega) (by unfold valsB; exact decide_eq_true (nums_val ok)))
  have HRES := Lib.hid (show x.bell ++ ⟨#[32]⟩ ++ lu = plcT x by rw [hlu]; rfl)
  obtain ⟨res, hres⟩ : ∃ res, res = plcT x := ⟨_, rfl⟩
  rw [← hres]
  rw [← hres] at HRES
  have s1 : (x.bell ++ (⟨#[32]⟩ : ByteArray)).size = x.bell.size + 1 := by rw [ByteArray.size_append]; rfl
  have k1 : (9223372036854775807 < x.bell.size + 1) = False := by simp; omega
  have k2 : (9223372036854775807 < x.bell.size + 1 + lu.size) = False := by simp; omega
  clear ok hL hlu hres h4
  have BX := Lib.hid (Box.alloc w [.string x.bell, .int .i64 x.x, .int .i64 x.y, .int .i64 x.z, .int .i64 x.reach] 34 w.heap.size rfl)
  have hbA : Below w.heap.size w (w.alloc (.cells #[.string x.bell, .int .i64 x.x, .int .i64 x.y, .int .i64 x.z, .int .i64 x.reach] 34)) := by (repeat (first | with_reducible exact Below.refl _ _ | with_reducible exact hbw | (with_reducible refine Below.setCell ?_ ?_ _; rotate_left; · first | exact Nat.le_refl _ | omega | (simp; done) | (simp; omega)) | (with_reducible refine Below.alloc ?_ ?_ _; rotate_left; · first | exact Nat.le_refl _ | omega | (simp; done) | (simp; omega)) | with_reducible refine below_drewN ?_ _ | with_reducible refine Below.drew ?_))
  go_enter Tryd.func13, Tryd.ntmps13
  go_wp2_with fail
  refine (validPlace_any true x _ ⟨fun _ => OK.out, fun _ => rfl⟩ (by unfold maxLen; omega)).mono ?_
  rintro e w1 ⟨rfl, hb1⟩
  have hbw1 := hbA.trans (hb1.mono hbA.size)
  have B1 := BX.out.mono hb1
  have c0 := B1.at' 0 _ rfl
  have c1 := B1.at' 1 _ rfl
  have c2 := B1.at' 2 _ rfl
  have c3 := B1.at' 3 _ rfl
  have c4 := B1.at' 4 _ rfl
  have l1 := B1.lt
  have HBW := Lib.hid hbw1
  clear B1 hb1 hbA hbw1
  go_wp2_with fail
  refine wp_region_ord [(0, true), (1, true), (2, true), (3, true), (4, true), (5, true), (6, true), (7, true), (8, true), (9, true), (10, true), (11, false), (12, false), (13, true), (14, true)] (none) (by kernel_rfl) (by kernel_rfl) ?_
  (repeat (with_reducible refine wpOrd_soft (fun K hK => ?_); simp only [List.getElem?_toArray, List.getElem?_cons_zero, List.getElem?_cons_succ]; first | (go_simp; refine hK _ ?_) | (simp only [undef]; go_simp; refine hK _ ?_); clear hK K))
  (with_reducible refine wpOrd_hard ?_; simp only [List.getElem?_toArray, List.getElem?_cons_zero, List.getElem?_cons_succ])
  go_wp2_with fail
  refine And.intro (grown_of_below (show Below w1.heap.size w1 _ by (repeat (first | with_reducible exact Below.refl _ _ | with_reducible exact hbw | (with_reducible refine Below.setCell ?_ ?_ _; rotate_left; · first | exact Nat.le_refl _ | omega | (simp; done) | (simp; omega)) | (with_reducible refine Below.alloc ?_ ?_ _; rotate_left; · first | exact Nat.le_refl _ | omega | (simp; done) | (simp; omega)) | with_reducible refine below_drewN ?_ _ | with_reducible refine Below.drew ?_)))) ?_
  (repeat (with_reducible refine wpOrd_soft (fun K hK => ?_); simp only [List.getElem?_toArray, List.getElem?_cons_zero, List.getElem?_cons_succ]; first | (go_simp; refine hK _ ?_) | (simp only [undef]; go_simp; refine hK _ ?_); clear hK K))
  (with_reducible refine wpOrd_hard ?_; simp only [List.getElem?_toArray, List.getElem?_cons_zero, List.getElem?_cons_succ])
  go_wp2_with fail
  have S0 := sl_lit w1 [.int .i64 x.x, .int .i64 x.y, .int .i64 x.z, .int .i64 x.reach] 2 4 w1.heap.size rfl (by simp [maxLen])
  have hbB : Below w1.heap.size w1 (w1.alloc (.cells #[.int .i64 x.x, .int .i64 x.y, .int .i64 x.z, .int .i64 x.reach] 2)).drew := by (repeat (first | with_reducible exact Below.refl _ _ | with_reducible exact hbw | (with_reducible refine Below.setCell ?_ ?_ _; rotate_left; · first | exact Nat.le_refl _ | omega | (simp; done) | (simp; omega)) | (with_reducible refine Below.alloc ?_ ?_ _; rotate_left; · first | exact Nat.le_refl _ | omega | (simp; done) | (simp; omega)) | with_reducible refine below_drewN ?_ _ | with_reducible refine Below.drew ?_))
  have S1 : Ints (w1.alloc (.cells #[.int .i64 x.x, .int .i64 x.y, .int .i64 x.z, .int .i64 x.reach] 2)).drew (.slice (some ⟨w1.heap.size, 0, none⟩) 4 4) (nums x) := Sl.mono S0 (by (repeat (first | with_reducible exact Below.refl _ _ | with_reducible exact hbw | (with_reducible refine Below.setCell ?_ ?_ _; rotate_left; · first | exact Nat.le_refl _ | omega | (simp; done) | (simp; omega)) | (with_reducible refine Below.alloc ?_ ?_ _; rotate_left; · first | exact Nat.le_refl _ | omega | (simp; done) | (simp; omega)) | with_reducible refine below_drewN ?_ _ | with_reducible refine Below.drew ?_)))
  refine (ListText_any _ (nums x) _ S1 (by simp [nums]) (fun n hn => i64_val (HV.out n hn)) ((HL.out.mono HBW.out).mono hbB).tab).mono ?_
  rintro e w2 ⟨rfl, hb2⟩
  rw [HLT.out]
  have hb12 : Below w1.heap.size w1 w2 := hbB.trans (hb2.mono hbB.size)
  clear S0 S1 hbB hb2
  go_wp2_with fail
  refine ⟨grown_of_below hb12, ?_⟩
  (repeat (with_reducible refine wpOrd_soft (fun K hK => ?_); simp only [List.getElem?_toArray, List.getElem?_cons_zero, List.getElem?_cons_succ]; first | (go_simp; refine hK _ ?_) | (simp only [undef]; go_simp; refine hK _ ?_); clear hK K))
  (with_reducible refine wpOrd_nil ?_); refine NoPanic.normal ?_
  go_wp2
  go_ret
  exact ⟨by rw [← HRES.out]; rfl, HBW.out.trans (hb12.mono HBW.out.size)⟩


theorem CutPlc_any (x : PlcD) (w : World) (ok : plcOk x) (hL : Lay w) :
    Calls Tryd.prog 24 #[.string (plcT x), .string ⟨#[32]⟩] w fun e w' => ∃ ok, e = .returned (.tuple #[.string x.bell, .string (listU (nums x)), .bool ok]) ∧ Below w.heap.size w w' := by
  obtain ⟨e1, e2, e3⟩ := plcT_cut ok
  have h := CutQ_any (plcT x).data.toList 32 w (by rw [e1]; have := plcT_size ok; omega) hL
  rw [e1, e2, e3] at h
  exact h
theorem ReadPlc_any (x : PlcD) (w : World) (ok : plcOk x) (hL : Lay w) :
    Calls Tryd.prog 25 #[.string (listU (nums x))] w fun e w' => ∃ b o c, e = .returned (.tuple #[.slice (some ⟨b, o, none⟩) 4 c, .bool true]) ∧ 4 ≤ c ∧ w'.cell? ⟨b, o, none⟩ = some (.int .i64 x.x) ∧ w'.cell? ⟨b, o + 1, none⟩ = some (.int .i64 x.y) ∧ w'.cell? ⟨b, o + 2, none⟩ = some (.int .i64 x.z) ∧ w'.cell? ⟨b, o + 3, none⟩ = some (.int .i64 x.reach) ∧ Below w.heap.size w w' := by
  have hv := nums_val ok
  obtain ⟨r1, r2⟩ := list_back (xs := nums x) (by simp [nums]) (by simp [nums]) hv
  have hs : (listU (nums x)).size ≤ 1048576 := by have := listU_len hv; have h4 : (nums x).length = 4 := rfl; omega
  refine (implReadList_any (listU (nums x)) w hs hL).mono ?_
  rintro e w' ⟨v, rfl, hi, hb⟩
  rw [r1]
  rw [r2] at hi
  obtain ⟨a, c, rfl, hc, _, _⟩ := id hi
  obtain ⟨b, o, rfl, hx⟩ := hi.cells (by simp [nums])
  have x0 := hx 0 _ rfl
  rw [Nat.add_zero] at x0
  exact ⟨b, o, c, rfl, hc, x0, hx 1 _ rfl, hx 2 _ rfl, hx 3 _ rfl, hb⟩
set_option maxHeartbeats 2000000 in
theorem ReadPlace_any (x : PlcD) (w : World) (ok : plcOk x) (hL : Lay w) :
    Calls Tryd.prog 12 #[.string (plcT x)] w fun e w' => e = .returned (.tuple #[.agg #[.string x.bell, .int .i64 x.x, .int .i64 x.y, .int .i64 x.z, .int .i64 x.reach], .bool true]) ∧ Below w.heap.size w w' := by
  have OK := Lib.hid ok; have HL := Lib.hid hL
  have hsb : x.bell.size ≤ 10 := ((NameOk.iff' _).1 ok.1).2.1
  obtain ⟨s, hs⟩ : ∃ s, s = plcT x := ⟨_, rfl⟩
  have HC := Lib.hid (fun w hL => CutPlc_any x w ok hL)
  have HR := Lib.hid (fun w hL => ReadPlc_any x w ok hL)
  have HT := Lib.hid (fun w hL => PlaceText_any x w ok hL)
  obtain ⟨u, hu⟩ : ∃ u, u = listU (nums x) := ⟨_, rfl⟩
  rw [← hs, ← hu] at HC
  rw [← hu] at HR
  rw [← hs] at HT
  rw [← hs]
  clear ok hL hs hu
  go_enter Tryd.func12, Tryd.ntmps12
  go_wp2_with fail
  have B0 := Lib.hid (Box.alloc w [.string ⟨#[]⟩, .int .i64 0, .int .i64 0, .int .i64 0, .int .i64 0] 34 w.heap.size rfl)
  refine (HC.out _ (HL.out.mono (belowA _ _))).mono ?_
  rintro e w0 ⟨ok0, rfl, hb0⟩
  have B0 := Lib.hid (B0.out.mono hb0)
  have HB0 := Lib.hid (Below.trans (belowA w (.cells #[.string ⟨#[]⟩, .int .i64 0, .int .i64 0, .int .i64 0, .int .i64 0] 34)) (hb0.mono (by simp)))
  clear hb0
  go_wp2_with fail
  refine (HR.out _ (HL.out.mono HB0.out)).mono ?_
  rintro e w1 ⟨b, o, c, rfl, hc, x0, x1, x2, x3, hb1⟩
  have B0 := Lib.hid (B0.out.mono hb1)
  have HB1 := Lib.hid (HB0.out.trans (hb1.mono HB0.out.size))
  have hz1 : w.heap.size < w1.heap.size := B0.out.lt
  have hbl : b < w1.heap.size := World.block_lt_of_cell? w1 _ x0
  have n0 : ∀ y, (ext w1.drew none y).cell? ⟨b, o, none⟩ = some (.int .i64 x.x) := fun y => (cell?_ext (w := w1.drew) (by simpa using hbl) (by simp)).trans x0
  have n1 : ∀ y, (ext w1.drew none y).cell? ⟨b, o + 1, none⟩ = some (.int .i64 x.y) := fun y => (cell?_ext (w := w1.drew) (by simpa using hbl) (by simp)).trans x1
  have n2 : ∀ y, (ext w1.drew none y).cell? ⟨b, o + 2, none⟩ = some (.int .i64 x.z) := fun y => (cell?_ext (w := w1.drew) (by simpa using hbl) (by simp)).trans x2
  have n3 : ∀ y, (ext w1.drew none y).cell? ⟨b, o + 3, none⟩ = some (.int .i64 x.reach) := fun y => (cell?_ext (w := w1.drew) (by simpa using hbl) (by simp)).trans x3
  clear hb1 x0 x1 x2 x3
  go_wp2_with fail
  refine wp_region_ordG [(0, 1), (1, 1), (2, 1), (3, 1), (4, 1), (5, 1), (6, 1), (7, 1), (8, 1), (9, 1), (10, 1), (11, 1), (12, 1), (13, 1), (14, 0), (15, 0)] [14, 15] (none) (by kernel_rfl) (by kernel_rfl) ?_
  (repeat ((first | with_reducible refine wpOrdG_soft (fun K hK => ?_) | with_reducible refine wpOrdG_pre (fun K hK => ?_)); simp only [List.getElem?_toArray, List.getElem?_cons_zero, List.getElem?_cons_succ]; first | (go_simp; refine hK _ ?_) | (simp only [undef]; go_simp; refine hK _ ?_); clear hK K))
  (with_reducible refine wpOrdG_hard ?_; simp only [List.getElem?_toArray, List.getElem?_cons_zero, List.getElem?_cons_succ])
  go_wp2_with fail
  refine And.intro (World.grownBy_alloc _ _ _) ?_
  (repeat ((first | with_reducible refine wpOrdG_soft (fun K hK => ?_) | with_reducible refine wpOrdG_pre (fun K hK => ?_)); simp only [List.getElem?_toArray, List.getElem?_cons_zero, List.getElem?_cons_succ]; first | (go_simp; refine hK _ ?_) | (simp only [undef]; go_simp; refine hK _ ?_); clear hK K))
  (with_reducible refine wpOrdG_hard ?_; simp only [List.getElem?_toArray, List.getElem?_cons_zero, List.getElem?_cons_succ])
  go_wp2_with fail
  refine And.intro (World.grownBy_alloc _ _ _) ?_
  (repeat ((first | with_reducible refine wpOrdG_soft (fun K hK => ?_) | with_reducible refine wpOrdG_pre (fun K hK => ?_)); simp only [List.getElem?_toArray, List.getElem?_cons_zero, List.getElem?_cons_succ]; first | (go_simp; refine hK _ ?_) | (simp only [undef]; go_simp; refine hK _ ?_); clear hK K))
  (with_reducible refine wpOrdG_nil ?_); refine NoPanic.normal ?_
  have BQ := Box.alloc w1 [.string x.bell, .int .i64 x.x, .int .i64 x.y, .int .i64 x.z, .int .i64 x.reach] 34 w1.heap.size rfl
  have hbq := belowA w1 (.cells #[.string x.bell, .int .i64 x.x, .int .i64 x.y, .int .i64 x.z, .int .i64 x.reach] 34)
  clear n0 n1 n2 n3
  go_wp2_with fail
  have hbd : Below w1.heap.size w1 (w1.alloc (.cells #[.string x.bell, .int .i64 x.x, .int .i64 x.y, .int .i64 x.z, .int .i64 x.reach] 34)).drew := by (repeat (first | with_reducible exact Below.refl _ _ | with_reducible exact hbw | (with_reducible refine Below.setCell ?_ ?_ _; rotate_left; · first | exact Nat.le_refl _ | omega | (simp; done) | (simp; omega)) | (with_reducible refine Below.alloc ?_ ?_ _; rotate_left; · first | exact Nat.le_refl _ | omega | (simp; done) | (simp; omega)) | with_reducible refine below_drewN ?_ _ | with_reducible refine Below.drew ?_))
  obtain ⟨H, hH⟩ : ∃ H, H = w1.heap.size := ⟨_, rfl⟩
  obtain ⟨W, hW⟩ : ∃ W, W = (w1.alloc (.cells #[.string x.bell, .int .i64 x.x, .int .i64 x.y, .int .i64 x.z, .int .i64 x.reach] 34)).drew := ⟨_, rfl⟩
  have BQ := Lib.hid (show Box W w1.heap.size [.string x.bell, .int .i64 x.x, .int .i64 x.y, .int .i64 x.z, .int .i64 x.reach] by rw [hW]; exact BQ.mono (by (repeat (first | with_reducible exact Below.refl _ _ | with_reducible exact hbw | (with_reducible refine Below.setCell ?_ ?_ _; rotate_left; · first | exact Nat.le_refl _ | omega | (simp; done) | (simp; omega)) | (with_reducible refine Below.alloc ?_ ?_ _; rotate_left; · first | exact Nat.le_refl _ | omega | (simp; done) | (simp; omega)) | with_reducible refine below_drewN ?_ _ | with_reducible refine Below.drew ?_))))
  rw [← hW] at hbd ⊢
  have B0 := Lib.hid (B0.out.mono hbd)
  have HB2 := Lib.hid (HB1.out.trans (hbd.mono HB1.out.size))
  clear hW hbd hbq hH
  refine (validPlace_any true x _ ⟨fun _ => OK.out, fun _ => rfl⟩ (by unfold maxLen; omega)).mono ?_
  rintro e w3 ⟨rfl, hb3⟩
  have BQ := Lib.hid (BQ.out.mono hb3)
  have B0 := Lib.hid (B0.out.mono hb3)
  have HB3 := Lib.hid (HB2.out.trans (hb3.mono HB2.out.size))
  clear hb3
  have c0 := BQ.out.at' 0 _ rfl
  have c1 := BQ.out.at' 1 _ rfl
  have c2 := BQ.out.at' 2 _ rfl
  have c3 := BQ.out.at' 3 _ rfl
  have c4 := BQ.out.at' 4 _ rfl
  have l1 := BQ.out.lt
  go_wp2_with fail
  refine (HT.out _ (HL.out.mono HB3.out)).mono ?_
  rintro e w4 ⟨rfl, hb4⟩
  have BQ := Lib.hid (BQ.out.mono hb4)
  have B0 := Lib.hid (B0.out.mono hb4)
  have HB4 := Lib.hid (HB3.out.trans (hb4.mono HB3.out.size))
  clear hb4 c0 c1 c2 c3 c4 l1
  have c0 := BQ.out.at' 0 _ rfl
  have c1 := BQ.out.at' 1 _ rfl
  have c2 := BQ.out.at' 2 _ rfl
  have c3 := BQ.out.at' 3 _ rfl
  have c4 := BQ.out.at' 4 _ rfl
  have l1 := BQ.out.lt
  have y0 := B0.out.at' 0 _ rfl
  have y1 := B0.out.at' 1 _ rfl
  have y2 := B0.out.at' 2 _ rfl
  have y3 := B0.out.at' 3 _ rfl
  have y4 := B0.out.at' 4 _ rfl
  have e0 := B0.out.fr 0
  have e1 := B0.out.fr 1
  have e2 := B0.out.fr 2
  have e3 := B0.out.fr 3
  have e4 := B0.out.fr 4
  have l0 := B0.out.lt
  go_wp2
  refine bodyPost_ret (v := .tuple #[.agg #[.string x.bell, .int .i64 x.x, .int .i64 x.y, .int .i64 x.z, .int .i64 x.reach], .bool true]) (by simp [results, Tryd.results12, go_sem, y0, y1, y2, y3, y4, e0, e1, e2, e3, e4, l0]) rfl ⟨rfl, ?_⟩
  have hbw := HB4.out
  (repeat (first | with_reducible exact Below.refl _ _ | with_reducible exact hbw | (with_reducible refine Below.setCell ?_ ?_ _; rotate_left; · first | exact Nat.le_refl _ | omega | (simp; done) | (simp; omega)) | (with_reducible refine Below.alloc ?_ ?_ _; rotate_left; · first | exact Nat.le_refl _ | omega | (simp; done) | (simp; omega)) | with_reducible refine below_drewN ?_ _ | with_reducible refine Below.drew ?_))

end Go.Proofs.YteaijhmgfddjiaaDoor
