/- Changes: which places stay. Contracts of l27Places and of ValidChange of the reference. -/
import Derived.Test.YtgdfecnpkjnhnaaDoorSign
import Derived.Test.YtgdfecnpkjnhnaaDoorRounds
import Derived.Test.YtgdfecnpkjnhnaaDoorApp
import Derived.Test.YtgdfecnpkjnhnaaDoorKInts
set_option linter.unusedSimpArgs false
set_option linter.unnecessarySimpa false
set_option linter.unusedVariables false
set_option maxRecDepth 100000
namespace Go.Proofs.YtgdfecnpkjnhnaaDoor
open Go.RowKit

/-- The byte at k, as a number. -/
def byteAt (s : ByteArray) (k : Nat) : Int := ((s.data.toList.getD k 0).toNat : Int)
theorem byteAt_eq (s : ByteArray) (k : Nat) (h : k < s.size) : byteAt s k = (s[k].toNat : Int) := by
  have h' : k < s.data.toList.length := by simpa using h
  unfold byteAt
  rw [List.getD_eq_getElem?_getD, List.getElem?_eq_getElem h']
  rfl
theorem byteAt_bd (s : ByteArray) (k : Nat) : 0 ≤ byteAt s k ∧ byteAt s k ≤ 255 := by
  unfold byteAt
  have := (s.data.toList.getD k 0).toNat_lt
  omega
theorem str_inj {a b : ByteArray} (h : a.toList = b.toList) : a = b := by
  rw [ByteArray.toList_eq, ByteArray.toList_eq] at h
  cases a; cases b
  congr 1
  exact Array.toList_inj.1 h
theorem str_beq (a b : ByteArray) : (a.toList == b.toList) = decide (a = b) := by
  by_cases h : a = b
  · subst h; simp
  · have : ¬ a.toList = b.toList := fun e => h (str_inj e)
    simp [h, this]
def xB : ByteArray := ⟨#[120]⟩
theorem xB_list : xB.toList = [120] := by rw [ByteArray.toList_eq]; rfl
theorem str_x {s : ByteArray} : (s.toList == [120]) = decide (s = xB) := by rw [← xB_list, str_beq]
theorem str_xn {s : ByteArray} : (s.toList != [120]) = decide (¬ s = xB) := by rw [bne, str_x]; by_cases h : s = xB <;> simp [h]
theorem str_nonempty {s : ByteArray} (h : 0 < s.size) : s.toList.isEmpty = false := by
  rw [ByteArray.toList_eq]
  cases hl : s.data.toList with
  | nil => have := congrArg List.length hl; simp at this; have e : s.size = s.data.size := rfl; rw [e, this] at h; simp at h
  | cons a l => rfl
theorem str_empty {s : ByteArray} (h : s.size = 0) : s.toList = [] := by
  rw [ByteArray.toList_eq]
  have e : s.size = s.data.size := rfl
  cases hl : s.data.toList with
  | nil => rfl
  | cons a l => have := congrArg List.length hl; simp at this; omega
/-- A place that cannot be next. -/
def badP (k last n : Int) : Prop := k ≤ last ∨ n < k ∨ (k - last).tmod 2 = 0
instance (k last n : Int) : Decidable (badP k last n) := by unfold badP; infer_instance
/-- The places of the first i signs. -/
def plTo (s : ByteArray) (n : Int) : Nat → Option (List Int × Int)
  | 0 => some ([], 0)
  | i + 1 => match plTo s n i with
    | none => none
    | some (ps, last) => if badP (valN (byteAt s i)) last n then none else some (ps ++ [valN (byteAt s i)], valN (byteAt s i))
theorem pl_bad {s : ByteArray} {n last : Int} {ps : List Int} {i : Nat} (h : plTo s n i = some (ps, last)) (hb : badP (valN (byteAt s i)) last n) : plTo s n (i + 1) = none := by
  unfold plTo; rw [h]; simp only; rw [if_pos hb]
theorem pl_good {s : ByteArray} {n last : Int} {ps : List Int} {i : Nat} (h : plTo s n i = some (ps, last)) (hb : ¬ badP (valN (byteAt s i)) last n) : plTo s n (i + 1) = some (ps ++ [valN (byteAt s i)], valN (byteAt s i)) := by
  unfold plTo; rw [h]; simp only; rw [if_neg hb]
theorem pl_none {s : ByteArray} {n : Int} {i : Nat} (h : plTo s n i = none) : ∀ j, i ≤ j → plTo s n j = none
  | 0, hj => by
    obtain rfl : i = 0 := by omega
    exact h
  | j + 1, hj => by
    rcases Nat.lt_or_eq_of_le hj with h1 | h1
    · unfold plTo; rw [pl_none h j (by omega)]
    · subst h1; exact h
theorem pl_len {s : ByteArray} {n : Int} : ∀ (i : Nat) {ps : List Int} {last : Int}, plTo s n i = some (ps, last) → ps.length = i ∧ 0 ≤ last ∧ last ≤ 12 ∧ ∀ p ∈ ps, 1 ≤ p ∧ p ≤ 12
  | 0, ps, last, h => by
    unfold plTo at h
    simp only [Option.some.injEq, Prod.mk.injEq] at h
    obtain ⟨rfl, rfl⟩ := h
    simp
  | i + 1, ps, last, h => by
    unfold plTo at h
    cases hp : plTo s n i with
    | none => rw [hp] at h; cases h
    | some q =>
      obtain ⟨ps', last'⟩ := q
      rw [hp] at h
      simp only at h
      split at h
      · cases h
      · rename_i hb
        simp only [Option.some.injEq, Prod.mk.injEq] at h
        obtain ⟨rfl, rfl⟩ := h
        obtain ⟨h1, h2, h3, h4⟩ := pl_len i hp
        have hv := val_bd (byteAt s i)
        unfold badP at hb
        refine ⟨by simp [h1], by omega, by omega, fun p hp => ?_⟩
        rcases List.mem_append.1 hp with hp | hp
        · exact h4 p hp
        · rw [List.mem_singleton.1 hp]; omega
/-- Strictly rising from 1 on, within 12: twelve at most. -/
theorem pl_short {s : ByteArray} {n : Int} : ∀ (i : Nat) {ps : List Int} {last : Int}, plTo s n i = some (ps, last) → (i : Int) ≤ last
  | 0, ps, last, h => by
    unfold plTo at h
    simp only [Option.some.injEq, Prod.mk.injEq] at h
    obtain ⟨_, rfl⟩ := h
    simp
  | i + 1, ps, last, h => by
    unfold plTo at h
    cases hp : plTo s n i with
    | none => rw [hp] at h; cases h
    | some q =>
      obtain ⟨ps', last'⟩ := q
      rw [hp] at h
      simp only at h
      split at h
      · cases h
      · rename_i hb
        simp only [Option.some.injEq, Prod.mk.injEq] at h
        obtain ⟨_, rfl⟩ := h
        have := pl_short i hp
        unfold badP at hb
        omega
def evenD (a b : Int) : Bool := (wrap64 (a - b)).tmod 2 == 0
def stayV (s : ByteArray) (n : Int) : List Int := if s = xB then [] else match plTo s n s.size with
  | none => []
  | some (ps, _) => if s.size = 0 then [] else ps
def stayB (s : ByteArray) (n : Int) : Bool := if s = xB then n.tmod 2 == 0 else match plTo s n s.size with
  | none => false
  | some (_, last) => if s.size = 0 then false else evenD n last
theorem stay_x {s : ByteArray} {n : Int} (h : s = xB) : stayV s n = [] ∧ stayB s n = (n.tmod 2 == 0) := by unfold stayV stayB; rw [if_pos h, if_pos h]; exact ⟨rfl, rfl⟩
theorem stay_none {s : ByteArray} {n : Int} (h : ¬ s = xB) (g : plTo s n s.size = none) : stayV s n = [] ∧ stayB s n = false := by unfold stayV stayB; rw [if_neg h, if_neg h, g]; exact ⟨rfl, rfl⟩
theorem stay_some {s : ByteArray} {n last : Int} {ps : List Int} (h : ¬ s = xB) (g : plTo s n s.size = some (ps, last)) (h0 : ¬ s.size = 0) : stayV s n = ps ∧ stayB s n = evenD n last := by unfold stayV stayB; rw [if_neg h, if_neg h, g]; simp only [if_neg h0]; exact ⟨trivial, trivial⟩
theorem stay_empty {s : ByteArray} {n : Int} (h0 : s.size = 0) : stayV s n = [] ∧ stayB s n = false := by
  have h : ¬ s = xB := fun e => by rw [e] at h0; cases h0
  unfold stayV stayB; rw [if_neg h, if_neg h, h0]; exact ⟨rfl, rfl⟩

theorem tm_bd {a : Int} (h1 : -100 ≤ a) (h2 : a ≤ 100) : IntKind.i64.wrap (a.tmod 2) = a.tmod 2 := by
  have h3 := Int.tmod_lt_of_pos a (show (0 : Int) < 2 by decide)
  have h4 := Int.lt_tmod_of_pos a (show (0 : Int) < 2 by decide)
  exact IntWalk.i64_in _ (by omega)
theorem tm_wrap (a : Int) : IntKind.i64.wrap (a.tmod 2) = a.tmod 2 := by
  have h3 := Int.tmod_lt_of_pos a (show (0 : Int) < 2 by decide)
  have h4 := Int.lt_tmod_of_pos a (show (0 : Int) < 2 by decide)
  exact IntWalk.i64_in _ (by omega)

set_option maxHeartbeats 2000000 in
theorem l27Places_any (s : ByteArray) (n : Int) (w : World) (hs : s.size ≤ maxLen) (hn : I64 n) :
    Calls Tryd.prog 44 #[.string s, .int .i64 n] w fun e w' => ∃ v, e = .returned (.tuple #[v, .bool (stayB s n)]) ∧ OwnInts w.heap.size w'.heap.size w' v (stayV s n) ∧ Below w.heap.size w w' := by
  unfold maxLen at hs
  by_cases hx : s = xB
  · obtain ⟨e1, e2⟩ := stay_x (n := n) hx
    have bx : (s.toList == [120]) = true := by rw [str_x]; simpa using hx
    have tw := tm_wrap n
    have E1 := Lib.hid e1; have E2 := Lib.hid e2; clear e1 e2 hx
    go_enter Tryd.func44, Tryd.ntmps44
    go_wp2
    go_ret2
    exact ⟨_, by rw [E2.out]; rfl, by rw [E1.out]; exact OwnInts.mk' (by simpa using owns_empty w 2 1 _ (Nat.le_refl _)), by (repeat (first | with_reducible exact Below.refl _ _ | with_reducible exact hbw | (with_reducible refine Below.setCell ?_ ?_ _; rotate_left; · first | exact Nat.le_refl _ | omega | (simp; done) | (simp; omega)) | (with_reducible refine Below.alloc ?_ ?_ _; rotate_left; · first | exact Nat.le_refl _ | omega | (simp; done) | (simp; omega)) | with_reducible refine below_drewN ?_ _ | with_reducible refine Below.drew ?_))⟩
  · have bx : (s.toList == [120]) = false := by rw [str_x]; simpa using hx
    have HX := Lib.hid hx; clear hx
    go_enter Tryd.func44, Tryd.ntmps44
    go_wp2_with fail
    go_loopw [6, 7, 8, 9] (fun o l i _ wr => ∃ (k : Nat) (ps : List Int) (last : Int) (a' : Option Addr) (c' : Nat), k ≤ s.size ∧ i = .int .i64 (k : Int) ∧ l = .int .i64 last ∧ o = .slice a' k c' ∧ plTo s n k = some (ps, last) ∧ wr.ownsRow w.heap.size 2 1 (.slice a' k c') k (ps.map (Value.int .i64)) ∧ Below w.heap.size w wr) (fun _ _ i _ _ => s.size - (intOf i).toNat)
    case atStart => exact ⟨0, [], 0, some ⟨w.heap.size, 0, none⟩, 0, Nat.zero_le _, by go_num, rfl, rfl, rfl, by simpa using owns_empty w 2 1 _ (Nat.le_refl _), by (repeat (first | with_reducible exact Below.refl _ _ | with_reducible exact hbw | (with_reducible refine Below.setCell ?_ ?_ _; rotate_left; · first | exact Nat.le_refl _ | omega | (simp; done) | (simp; omega)) | (with_reducible refine Below.alloc ?_ ?_ _; rotate_left; · first | exact Nat.le_refl _ | omega | (simp; done) | (simp; omega)) | with_reducible refine below_drewN ?_ _ | with_reducible refine Below.drew ?_))⟩
    case round =>
      obtain ⟨k, ps, last, a', c', hk, rfl, rfl, rfl, hp, ho, hb⟩ := hrel
      have HO := Lib.hid ho; have HP := Lib.hid hp; clear ho
      obtain ⟨_, l0, l12, _⟩ := pl_len k hp
      have hk12 := pl_short k hp
      have hz := hb.size
      clear hp
      by_cases hlt : k < s.size
      · have hB := Lib.hid (byteAt_eq s k hlt)
        have hv := val_bd (byteAt s k)
        obtain ⟨v, hvv⟩ : ∃ v, v = valN (byteAt s k) := ⟨_, rfl⟩
        have HV := Lib.hid hvv
        rw [← hvv] at hv
        obtain ⟨v0, v12⟩ := hv
        have w1' : IntKind.i64.wrap (v - last) = v - last := IntWalk.i64_in _ (by omega)
        have w2' : IntKind.i64.wrap ((v - last).tmod 2) = (v - last).tmod 2 := tm_wrap _
        clear hvv
        by_cases c1 : v ≤ last
        · have d1 : decide (v ≤ last) = true := by simpa using c1
          obtain ⟨e1, e2⟩ := stay_none HX.out (pl_none (pl_bad HP.out (by rw [← HV.out]; exact .inl c1)) s.size (by omega))
          have E1 := Lib.hid e1; have E2 := Lib.hid e2; clear e1 e2 c1
          go_wp2_with fail
          rw [← hB.out]
          refine (l27Value_any (byteAt s k) _).mono ?_
          rintro e w1 ⟨rfl, rfl⟩
          rw [← HV.out]
          go_wp2
          go_ret2
          exact ⟨_, by rw [E2.out]; rfl, by rw [E1.out]; exact OwnInts.nil _ _ _, hb⟩
        have d1 : decide (v ≤ last) = false := by simpa using c1
        by_cases c2 : n < v
        · have d2 : decide (n < v) = true := by simpa using c2
          obtain ⟨e1, e2⟩ := stay_none HX.out (pl_none (pl_bad HP.out (by rw [← HV.out]; exact .inr (.inl c2))) s.size (by omega))
          have E1 := Lib.hid e1; have E2 := Lib.hid e2; clear e1 e2 c1 c2
          go_wp2_with fail
          rw [← hB.out]
          refine (l27Value_any (byteAt s k) _).mono ?_
          rintro e w1 ⟨rfl, rfl⟩
          rw [← HV.out]
          go_wp2
          go_ret2
          exact ⟨_, by rw [E2.out]; rfl, by rw [E1.out]; exact OwnInts.nil _ _ _, hb⟩
        have d2 : decide (n < v) = false := by simpa using c2
        by_cases c3 : (v - last).tmod 2 = 0
        · have d3 : ((v - last).tmod 2 == 0) = true := by simpa using c3
          obtain ⟨e1, e2⟩ := stay_none HX.out (pl_none (pl_bad HP.out (by rw [← HV.out]; exact .inr (.inr c3))) s.size (by omega))
          have E1 := Lib.hid e1; have E2 := Lib.hid e2; clear e1 e2 c1 c2 c3
          go_wp2_with fail
          rw [← hB.out]
          refine (l27Value_any (byteAt s k) _).mono ?_
          rintro e w1 ⟨rfl, rfl⟩
          rw [← HV.out]
          go_wp2
          go_ret2
          exact ⟨_, by rw [E2.out]; rfl, by rw [E1.out]; exact OwnInts.nil _ _ _, hb⟩
        have d3 : ((v - last).tmod 2 == 0) = false := by simpa using c3
        have HG := Lib.hid (pl_good HP.out (show ¬ badP (valN (byteAt s k)) last n by rw [← HV.out]; unfold badP; rintro (h | h | h); exact c1 h; exact c2 h; exact c3 h))
        clear c1 c2 c3
        go_wp2_with fail
        rw [← hB.out]
        refine (l27Value_any (byteAt s k) _).mono ?_
        rintro e w1 ⟨rfl, rfl⟩
        rw [← HV.out]
        go_wp2_with (at_builtin; refine append_one rfl _ _ 63 rfl w.heap.size 2 (.int .i64 0) 1 8 Tryd.underlying63 info_int rfl (by decide) _ k _ rfl HO.out [.int .i64 v] rfl (by simp [Value.oneCell']) rfl (by omega) (by decide) hz ?_)
        intro a5 c5 w5 ho5 _ hb5
        have HO5 := Lib.hid ho5; have HB5 := Lib.hid (hb.trans hb5)
        clear ho5 hb5 d1 d2 d3 w1' w2'
        go_wp2
        go_roundw
        case rel => exact ⟨k + 1, ps ++ [v], v, a5, c5, by omega, by go_num, rfl, rfl, by rw [HG.out, ← HV.out], by rw [List.map_append]; exact HO5.out, HB5.out⟩
        case measure => simp [intOf] <;> omega
      · obtain rfl : k = s.size := by omega
        by_cases h0 : s.size = 0
        · obtain ⟨e1, e2⟩ := stay_empty (n := n) h0
          have d0 : decide ((0 : Int) < (s.size : Int)) = false := decide_eq_false (by omega)
          have d0' : decide (0 < s.size) = false := decide_eq_false (by omega)
          have d0'' : ¬ (0 < s.size) := by omega
          have E1 := Lib.hid e1; have E2 := Lib.hid e2; clear e1 e2
          have HZ := Lib.hid h0
          have hps : ps = [] := by have := (pl_len s.size HP.out).1; rw [h0] at this; exact List.eq_nil_of_length_eq_zero this
          subst hps
          have HO2 := Lib.hid (show wr.ownsRow w.heap.size 2 1 (.slice a' s.size c') ([] : List Int).length (([] : List Int).map (Value.int .i64)) by have := HO.out; rw [h0] at this ⊢; exact this)
          clear h0
          go_wp2
          go_ret2
          exact ⟨_, by rw [E2.out]; rfl, by rw [E1.out]; exact OwnInts.mk' HO2.out, hb⟩
        · obtain ⟨e1, e2⟩ := stay_some HX.out HP.out h0
          have d0 : decide ((0 : Int) < (s.size : Int)) = true := decide_eq_true (by omega)
          have d0' : decide (0 < s.size) = true := decide_eq_true (by omega)
          have d0'' : 0 < s.size := by omega
          have tw := tm_wrap (wrap64 (n - last))
          have hln := (pl_len s.size HP.out).1
          have E1 := Lib.hid e1; have E2 := Lib.hid e2; clear e1 e2 h0
          go_wp2
          go_ret2
          exact ⟨_, by rw [E2.out]; rfl, by rw [E1.out]; exact OwnInts.mk' (by rw [hln]; exact HO.out), hb⟩

def changeB (s : ByteArray) (n : Int) : Bool := if stage n then stayB s n else false
theorem ch_yes {s : ByteArray} {n : Int} (h : stage n) : changeB s n = stayB s n := if_pos h
theorem ch_no {s : ByteArray} {n : Int} (h : ¬ stage n) : changeB s n = false := if_neg h

set_option maxHeartbeats 1000000 in
theorem specValidChange_any (s : ByteArray) (n : Int) (w : World) (hs : s.size ≤ 1048576) (hn : I64 n) :
    Calls Tryd.prog 60 #[.string s, .int .i64 n] w fun e w' => e = .returned (.bool (changeB s n)) ∧ Below w.heap.size w w' := by
  by_cases h : stage n
  · rw [ch_yes h]
    have H := Lib.hid (yesB h); clear h
    go_enter Tryd.func60, Tryd.ntmps60
    go_wp2_with fail
    refine (l27Stage_any true _ _ H.out).mono ?_
    rintro e w1 ⟨rfl, rfl⟩
    go_wp2_with fail
    refine (l27Places_any s n _ (by unfold maxLen; omega) hn).mono ?_
    rintro e w2 ⟨v, rfl, ho, hb⟩
    obtain ⟨a2, c2, rfl⟩ := ho.form
    go_wp2
    go_ret
    exact ⟨rfl, hb⟩
  · rw [ch_no h]
    have H := Lib.hid (noB h); clear h
    go_enter Tryd.func60, Tryd.ntmps60
    go_wp2_with fail
    refine (l27Stage_any false _ _ H.out).mono ?_
    rintro e w1 ⟨rfl, rfl⟩
    go_wp2
    go_ret
    exact ⟨rfl, Below.refl _ _⟩


end Go.Proofs.YtgdfecnpkjnhnaaDoor
