/- Contracts of UnevenKeys of both packages. -/
import Derived.Test.YtijhlllajddlpaaClav
import Derived.Test.YtijhlllajddlpaaKInts
set_option linter.unusedSimpArgs false
set_option linter.unnecessarySimpa false
set_option linter.unusedVariables false
set_option maxRecDepth 100000
namespace Go.Proofs.Ytijhlllajddlpaa
open Go.RowKit

theorem info_int64 : (Try.prog.info? 2).map (fun i => (i.zero, i.size, i.bytes)) = some (some (.int .i64 0), 1, 8) := by kernel_rfl
def tAt (xs : List ActD) (k : Nat) : Int := (xs[k]?.map fun x => heave x.levs x.weight).getD 0
theorem tAt_eq {xs : List ActD} {k : Nat} (h : k < xs.length) : tAt xs k = heave xs[k].levs xs[k].weight := by simp [tAt, h]
def absI (d : Int) : Int := if d < 0 then -d else d
def unTo (xs : List ActD) (lim : Int) : Nat → List Int
  | 0 => []
  | k + 1 => unTo xs lim k ++ (if 0 < k ∧ lim < absI (tAt xs k - tAt xs (k - 1)) then [↑k] else [])
theorem unTo_yes {xs : List ActD} {lim : Int} {k : Nat} (h0 : 0 < k) (h : lim < absI (tAt xs k - tAt xs (k - 1))) : unTo xs lim (k + 1) = unTo xs lim k ++ [(k : Int)] := by simp [unTo, h0, h]
theorem unTo_no {xs : List ActD} {lim : Int} {k : Nat} (h : ¬ (0 < k ∧ lim < absI (tAt xs k - tAt xs (k - 1)))) : unTo xs lim (k + 1) = unTo xs lim k := by simp only [unTo, if_neg h, List.append_nil]
theorem unTo_len (xs : List ActD) (lim : Int) : ∀ k, (unTo xs lim k).length ≤ k
  | 0 => by simp [unTo]
  | k + 1 => by have := unTo_len xs lim k; simp only [unTo, List.length_append]; split <;> simp <;> omega
def fineTo (xs : List ActD) (n : Nat) : Prop := ∀ i, i < n → 0 ≤ tAt xs i
def limOkU (t : Int) : Prop := 0 ≤ t ∧ t ≤ 1000000
instance (t : Int) : Decidable (limOkU t) := by unfold limOkU; infer_instance
noncomputable instance (xs : List ActD) (n : Nat) : Decidable (fineTo xs n) := Classical.propDecidable _
noncomputable def unV (xs : List ActD) (lim : Int) : List Int := if clavB xs then (if limOkU lim then (if fineTo xs xs.length then unTo xs lim xs.length else []) else []) else []
noncomputable def unC (xs : List ActD) (lim : Int) : Int := if clavB xs then (if limOkU lim then (if fineTo xs xs.length then 0 else 6) else 2) else 1
theorem un_yes {xs : List ActD} {lim : Int} (h : clavB xs = true) (hl : limOkU lim) (hf : fineTo xs xs.length) : unV xs lim = unTo xs lim xs.length ∧ unC xs lim = 0 := by
  unfold unV unC; rw [h, if_pos rfl, if_pos rfl, if_pos hl, if_pos hl, if_pos hf, if_pos hf]; exact ⟨rfl, rfl⟩
theorem un_bad {xs : List ActD} {lim : Int} (h : clavB xs = true) (hl : limOkU lim) (hf : ¬ fineTo xs xs.length) : unV xs lim = [] ∧ unC xs lim = 6 := by
  unfold unV unC; rw [h, if_pos rfl, if_pos rfl, if_pos hl, if_pos hl, if_neg hf, if_neg hf]; exact ⟨rfl, rfl⟩
theorem un_rng {xs : List ActD} {lim : Int} (h : clavB xs = true) (hl : ¬ limOkU lim) : unV xs lim = [] ∧ unC xs lim = 2 := by
  unfold unV unC; rw [h, if_pos rfl, if_pos rfl, if_neg hl, if_neg hl]; exact ⟨rfl, rfl⟩
theorem un_inv {xs : List ActD} {lim : Int} (h : clavB xs = false) : unV xs lim = [] ∧ unC xs lim = 1 := by
  unfold unV unC; rw [h]; exact ⟨rfl, rfl⟩
theorem un_len (xs : List ActD) (lim : Int) (h : xs.length ≤ 1048576) : (unV xs lim).length ≤ 1048576 := by
  have := unTo_len xs lim xs.length
  unfold unV; split
  · split
    · split
      · omega
      · simp
    · simp
  · simp
theorem ClavOk.tch {xs : List ActD} (h : ClavOk xs) {k : Nat} (hk : k < xs.length) : tAt xs k = -1 ∨ (0 ≤ tAt xs k ∧ tAt xs k ≤ 1000000000000) := by
  have := h.ok hk
  rw [tAt_eq hk]; exact heave_in this.arms this.weight.1 (by have := this.weight.2; omega)

set_option maxHeartbeats 4000000 in
theorem implUnevenKeys_any (v : Value) (x : List ActD) (lim : Int) (w : World) (h : RdActs w v x) (_ : okActs x) (hs : szActs x ≤ 1048576) (_ : I64 lim) :
    Calls Try.prog 16 #[v, .int .i64 lim] w fun e w' => ∃ v', e = .returned (.tuple #[v', .int .i64 (unC x lim)]) ∧ OwnInts w.heap.size w'.heap.size w' v' (unV x lim) ∧ Below w.heap.size w w' := by
  obtain ⟨a, ca, rfl, hm⟩ := h.form'
  unfold maxLen at hm
  have hxl : x.length ≤ 1048576 := Nat.le_trans (szActs_len x) hs
  by_cases g : ClavOk x
  · have GV := Lib.hid (clavB_iff.2 g)
    by_cases gl : limOkU lim
    · have GL := Lib.hid gl
      obtain ⟨l0, l1⟩ := gl
      have G := Lib.hid g; clear g
      go_enter Try.func16, Try.ntmps16
      go_wp2_with fail
      refine (implValidClav_any _ x _ h).mono ?_
      rw [GV.out]
      rintro e w1 ⟨rfl, hb⟩
      go_wp2_with fail
      refine (within_any true _ _ _ _ (yesB GL.out)).mono ?_
      rintro e w2 ⟨rfl, rfl⟩
      go_wp2_with fail
      go_loopw [6, 7, 20, 8, 9, 10, 11] (fun u bf i _ _ _ _ wr => ∃ (k : Nat) (pb : Int) (a' : Option Addr) (c' : Nat), k ≤ x.length ∧ i = .int .i64 k ∧ bf = .int .i64 pb ∧ (0 < k → pb = tAt x (k - 1)) ∧ 0 ≤ pb ∧ pb ≤ 1000000000000 ∧ fineTo x k ∧ u = .slice a' (unTo x lim k).length c' ∧ wr.ownsRow w.heap.size 2 1 (.slice a' (unTo x lim k).length c') (unTo x lim k).length ((unTo x lim k).map (Value.int .i64)) ∧ Below w.heap.size w wr) (fun _ _ i _ _ _ _ _ => x.length - (intOf i).toNat)
      case atStart => exact ⟨0, 0, none, 0, Nat.zero_le _, rfl, rfl, by omega, by omega, by omega, fun i hi => by omega, rfl, owns_nil _ _ _ _, hb⟩
      case round =>
        clear hb
        obtain ⟨k, pb, a1, c1, hk, rfl, rfl, hpb, p0, p1, hf, rfl, ho, hb⟩ := hrel
        have HPB := Lib.hid hpb; have HF := Lib.hid hf; clear hpb hf
        have hul := unTo_len x lim k
        have hsz := hb.size
        by_cases hlt : k < x.length
        · obtain ⟨b1, o1, lv, cc, rfl, hB, u0, u1, u2, u3, u4⟩ := (h.mono hb).at' hlt
          have hA := G.out.ok hlt
          have hw := hA.weight
          obtain ⟨o, ho'⟩ : ∃ o, o = heave x[k].levs x[k].weight := ⟨_, rfl⟩
          have ht : tAt x k = o := by rw [tAt_eq hlt, ho']
          have hin := G.out.tch hlt
          rw [ht] at hin
          have HT := Lib.hid ht; have HO := Lib.hid ho'; have HA := Lib.hid hA.arms; clear ht ho' hA
          obtain ⟨hw0, hw1⟩ := hw
          by_cases g0 : o < 0
          · have E := Lib.hid (un_bad GV.out GL.out (fun hf => by have := hf k hlt; rw [HT.out] at this; omega))
            clear hin
            go_wp2_with fail
            refine (touch_any o 0 false _ _ x[k] _ ⟨rfl, u4.mono (by (repeat (first | with_reducible exact Below.refl _ _ | with_reducible exact hbw | (with_reducible refine Below.setCell ?_ ?_ _; rotate_left; · first | exact Nat.le_refl _ | omega | (simp; done) | (simp; omega)) | (with_reducible refine Below.alloc ?_ ?_ _; rotate_left; · first | exact Nat.le_refl _ | omega | (simp; done) | (simp; omega)) | with_reducible refine below_drewN ?_ _ | with_reducible refine Below.drew ?_)))⟩ HO.out (by rw [if_pos g0]) (noB (by omega)) HA.out hw0 (by omega)).mono ?_
            rintro e w2 ⟨rfl, hb1⟩
            have st : Below wr.heap.size wr w2 := Below.trans (by (repeat (first | with_reducible exact Below.refl _ _ | with_reducible exact hbw | (with_reducible refine Below.setCell ?_ ?_ _; rotate_left; · first | exact Nat.le_refl _ | omega | (simp; done) | (simp; omega)) | (with_reducible refine Below.alloc ?_ ?_ _; rotate_left; · first | exact Nat.le_refl _ | omega | (simp; done) | (simp; omega)) | with_reducible refine below_drewN ?_ _ | with_reducible refine Below.drew ?_))) (hb1.mono (by simp))
            have hb2 := hb.trans (st.mono hsz)
            go_wp2
            go_ret2
            exact ⟨_, ret_vi E.out.2.symm, by rw [E.out.1]; exact OwnInts.nil _ _ _, hb2⟩
          · have hin2 : o ≤ 1000000000000 := by omega
            have hin3 : 0 ≤ o := by omega
            clear hin
            go_wp2_with fail
            refine (touch_any o o true _ _ x[k] _ ⟨rfl, u4.mono (by (repeat (first | with_reducible exact Below.refl _ _ | with_reducible exact hbw | (with_reducible refine Below.setCell ?_ ?_ _; rotate_left; · first | exact Nat.le_refl _ | omega | (simp; done) | (simp; omega)) | (with_reducible refine Below.alloc ?_ ?_ _; rotate_left; · first | exact Nat.le_refl _ | omega | (simp; done) | (simp; omega)) | with_reducible refine below_drewN ?_ _ | with_reducible refine Below.drew ?_)))⟩ HO.out (by rw [if_neg (by omega)]) (yesB (by omega)) HA.out hw0 (by omega)).mono ?_
            rintro e w2 ⟨rfl, hb1⟩
            have st : Below wr.heap.size wr w2 := Below.trans (by (repeat (first | with_reducible exact Below.refl _ _ | with_reducible exact hbw | (with_reducible refine Below.setCell ?_ ?_ _; rotate_left; · first | exact Nat.le_refl _ | omega | (simp; done) | (simp; omega)) | (with_reducible refine Below.alloc ?_ ?_ _; rotate_left; · first | exact Nat.le_refl _ | omega | (simp; done) | (simp; omega)) | with_reducible refine below_drewN ?_ _ | with_reducible refine Below.drew ?_))) (hb1.mono (by simp))
            have hb2 := hb.trans (st.mono hsz)
            have hsz2 := hb2.size
            have ho2 := owns_mono ho st
            clear hb1
            by_cases h0 : 0 < k
            · have z0 : decide (0 < (k : Int)) = true := by simpa using h0
              obtain ⟨d, hd⟩ : ∃ d, d = absI (o - pb) := ⟨_, rfl⟩
              have HD := Lib.hid hd; clear hd
              have w1' : IntKind.i64.wrap (o - pb) = o - pb := IntWalk.i64_in _ (by omega)
              go_wp2_with fail
              refine (abs_any d _ _ HD.out (by omega) (by omega)).mono ?_
              rintro e w3 ⟨rfl, rfl⟩
              clear w1'
              by_cases g1 : lim < d
              · have d1 : decide (lim < d) = true := by simpa using g1
                have S := Lib.hid (unTo_yes (xs := x) (lim := lim) h0 (by rw [HT.out, ← HPB.out h0, ← HD.out]; exact g1))
                go_wp2_with (at_builtin; refine append_one rfl _ _ 44 rfl w.heap.size 2 (.int .i64 0) 1 8 Try.underlying44 info_int64 rfl (by decide) _ (unTo x lim k).length _ rfl ho2 [.int .i64 ↑k] rfl (by simp [Value.oneCell']) rfl (by omega) (by decide) hsz2 ?_)
                intro a' cap' w3 ho3 _ hb3
                go_wp2
                go_roundw
                case rel => exact ⟨k + 1, o, a', cap', by omega, by go_num, rfl, fun _ => HT.out.symm, by omega, by omega, lt_step HF.out (by rw [HT.out]; omega), by rw [S.out]; simp, by rw [S.out]; simpa using ho3, hb2.trans hb3⟩
                case measure => simp [intOf] <;> omega
              · have d1 : decide (lim < d) = false := by simpa using g1
                have S := Lib.hid (unTo_no (xs := x) (lim := lim) (k := k) (fun hh => g1 (by rw [HD.out, HPB.out h0, ← HT.out]; exact hh.2)))
                go_wp2
                go_roundw
                case rel => exact ⟨k + 1, o, a1, c1, by omega, by go_num, rfl, fun _ => HT.out.symm, by omega, by omega, lt_step HF.out (by rw [HT.out]; omega), by rw [S.out], by rw [S.out]; exact ho2, hb2⟩
                case measure => simp [intOf] <;> omega
            · have z0 : decide (0 < (k : Int)) = false := by simpa using h0
              have S := Lib.hid (unTo_no (xs := x) (lim := lim) (k := k) (fun hh => h0 hh.1))
              go_wp2
              go_roundw
              case rel => exact ⟨k + 1, o, a1, c1, by omega, by go_num, rfl, fun _ => HT.out.symm, by omega, by omega, lt_step HF.out (by rw [HT.out]; omega), by rw [S.out], by rw [S.out]; exact ho2, hb2⟩
              case measure => simp [intOf] <;> omega
        · obtain rfl : k = x.length := by omega
          have E := Lib.hid (un_yes GV.out GL.out HF.out)
          go_wp2
          go_ret2
          exact ⟨_, ret_vi E.out.2.symm, by rw [E.out.1]; exact OwnRow.mk' ho, hb⟩
    · have E := Lib.hid (un_rng GV.out gl)
      have GL := Lib.hid gl; clear g gl
      rw [E.out.1, E.out.2]
      go_enter Try.func16, Try.ntmps16
      go_wp2_with fail
      refine (implValidClav_any _ x _ h).mono ?_
      rw [GV.out]
      rintro e w1 ⟨rfl, hb⟩
      go_wp2_with fail
      refine (within_any false _ _ _ _ (noB GL.out)).mono ?_
      rintro e w2 ⟨rfl, rfl⟩
      go_wp2
      go_ret2
      exact ⟨_, rfl, OwnInts.nil _ _ _, hb⟩
  · have GV := Lib.hid (show clavB x = false by rw [← Bool.not_eq_true, clavB_iff]; exact g); clear g
    have E := Lib.hid (un_inv (lim := lim) GV.out)
    rw [E.out.1, E.out.2]
    go_enter Try.func16, Try.ntmps16
    go_wp2_with fail
    refine (implValidClav_any _ x _ h).mono ?_
    rw [GV.out]
    rintro e w1 ⟨rfl, hb⟩
    go_wp2
    go_ret2
    exact ⟨_, rfl, OwnInts.nil _ _ _, hb⟩

theorem absI_max (d : Int) : max d (-d) = absI d := by unfold absI; split <;> omega
/-- The touches of the first k keys. -/
def tList (xs : List ActD) (k : Nat) : List Int := (List.range k).map fun i => tAt xs i
theorem tList_len (xs : List ActD) (k : Nat) : (tList xs k).length = k := by simp [tList]
theorem tList_succ (xs : List ActD) (k : Nat) : tList xs (k + 1) = tList xs k ++ [tAt xs k] := by simp [tList, List.range_succ]
theorem tList_get (xs : List ActD) (n k : Nat) (h : k < n) : ((tList xs n).map (Value.int .i64))[k]? = some (.int .i64 (tAt xs k)) := by simp [tList, h]

end Go.Proofs.Ytijhlllajddlpaa
