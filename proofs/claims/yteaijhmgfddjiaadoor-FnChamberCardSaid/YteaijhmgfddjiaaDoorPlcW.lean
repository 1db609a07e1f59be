/- Validity of places and of lists of places. -/
import Derived.Test.YteaijhmgfddjiaaDoorPlcL
import Derived.Test.YteaijhmgfddjiaaDoorPlcD
import Derived.Test.YteaijhmgfddjiaaDoorName
import Derived.Test.YteaijhmgfddjiaaDoorWithin
import Derived.Test.YteaijhmgfddjiaaDoorBox
import Derived.IntWalk
import Derived.Deep.QuietTactic
import Derived.BigQuiet
set_option linter.unusedSimpArgs false
set_option linter.unnecessarySimpa false
set_option linter.unusedVariables false
set_option maxRecDepth 100000
namespace Go.Proofs.YteaijhmgfddjiaaDoor
open Go.RowKit

theorem less_total : ∀ (a b : List UInt8), (Go.Op.bytesLess b a || b == a) = !Go.Op.bytesLess a b
  | [], [] => rfl
  | [], _ :: _ => rfl
  | _ :: _, [] => rfl
  | a :: x, b :: y => by
    have ih := less_total x y
    simp only [Go.Op.bytesLess]
    rcases Nat.lt_trichotomy a.toNat b.toNat with h | h | h
    · have h1 : (a < b) = True := by simp [UInt8.lt_iff_toNat_lt, h]
      have h2 : (b < a) = False := by simp [UInt8.lt_iff_toNat_lt]; omega
      have h3 : a ≠ b := fun e => by subst e; omega
      simp [h1, h2, h3, Ne.symm h3]
    · have h3 : a = b := UInt8.toNat_inj.1 h
      subst h3
      have h1 : (a < a) = False := by simp
      simp [h1] at ih ⊢
      exact ih
    · have h1 : (b < a) = True := by simp [UInt8.lt_iff_toNat_lt, h]
      have h2 : (a < b) = False := by simp [UInt8.lt_iff_toNat_lt]; omega
      have h3 : a ≠ b := fun e => by subst e; omega
      simp [h1, h2, h3, Ne.symm h3]
theorem isNameB_any (b : Bool) (s : ByteArray) (w : World) (h : b = decide (NameOk s)) (hs : s.size ≤ maxLen) :
    Calls Tryd.prog 30 #[.string s] w fun e w' => e = .returned (.bool b) ∧ Below w.heap.size w w' := by
  subst h
  exact isName_any s w hs
theorem isReach_any (b : Bool) (n : Int) (w : World) (h : b = decide (1 ≤ n ∧ n ≤ 5000)) : Calls Tryd.prog 31 #[.int .i64 n] w fun e w' => e = .returned (.bool b) ∧ w' = w := by
  have H := Lib.hid h; clear h
  go_enter Tryd.func31, Tryd.ntmps31
  go_wp2_with fail
  refine (within_any b n _ _ _ H.out).mono ?_
  rintro e w1 ⟨rfl, rfl⟩
  go_wp2
  go_ret
  exact ⟨rfl, rfl⟩
theorem isSpace_any (b : Bool) (n : Int) (w : World) (h : b = decide (0 ≤ n ∧ n ≤ 5000)) : Calls Tryd.prog 17 #[.int .i64 n] w fun e w' => e = .returned (.bool b) ∧ w' = w := by
  have H := Lib.hid h; clear h
  go_enter Tryd.func17, Tryd.ntmps17
  go_wp2_with fail
  refine (within_any b n _ _ _ H.out).mono ?_
  rintro e w1 ⟨rfl, rfl⟩
  go_wp2
  go_ret
  exact ⟨rfl, rfl⟩
theorem isMove_any (b : Bool) (n : Int) (w : World) (h : b = decide ((-20000) ≤ n ∧ n ≤ 20000)) : Calls Tryd.prog 23 #[.int .i64 n] w fun e w' => e = .returned (.bool b) ∧ w' = w := by
  have H := Lib.hid h; clear h
  go_enter Tryd.func23, Tryd.ntmps23
  go_wp2_with fail
  refine (within_any b n _ _ _ H.out).mono ?_
  rintro e w1 ⟨rfl, rfl⟩
  go_wp2
  go_ret
  exact ⟨rfl, rfl⟩

set_option maxHeartbeats 1000000 in
theorem validPlace_any (b : Bool) (x : PlcD) (w : World) (h : b = true ↔ plcOk x) (hs : x.bell.size ≤ maxLen) :
    Calls Tryd.prog 20 #[.agg #[.string x.bell, .int .i64 x.x, .int .i64 x.y, .int .i64 x.z, .int .i64 x.reach]] w fun e w' => e = .returned (.bool b) ∧ Below w.heap.size w w' := by
  by_cases n0 : NameOk x.bell
  · skip
    by_cases n1 : 0 ≤ x.x ∧ x.x ≤ 20000
    · skip
      by_cases n2 : 0 ≤ x.y ∧ x.y ≤ 20000
      · skip
        by_cases n3 : 0 ≤ x.z ∧ x.z ≤ 20000
        · skip
          by_cases n4 : 1 ≤ x.reach ∧ x.reach ≤ 5000
          · skip
            have HV := Lib.hid (show b = true from h.2 ⟨n0, n1, n2, n3, n4⟩)
            have E0 := Lib.hid (show true = decide (NameOk x.bell) from (decide_eq_true n0).symm)
            have E1 := Lib.hid (show true = decide (0 ≤ x.x ∧ x.x ≤ 20000) from (decide_eq_true n1).symm)
            have E2 := Lib.hid (show true = decide (0 ≤ x.y ∧ x.y ≤ 20000) from (decide_eq_true n2).symm)
            have E3 := Lib.hid (show true = decide (0 ≤ x.z ∧ x.z ≤ 20000) from (decide_eq_true n3).symm)
            have E4 := Lib.hid (show true = decide (1 ≤ x.reach ∧ x.reach ≤ 5000) from (decide_eq_true n4).symm)
            clear h n0 n1 n2 n3 n4
            go_enter Tryd.func20, Tryd.ntmps20
            go_wp2_with fail
            obtain ⟨wA, hA⟩ : ∃ wA, wA = w.alloc (Obj.cells #[.string x.bell, .int .i64 x.x, .int .i64 x.y, .int .i64 x.z, .int .i64 x.reach] 34) := ⟨_, rfl⟩
            rw [← hA]
            have hB : Box wA w.heap.size [.string x.bell, .int .i64 x.x, .int .i64 x.y, .int .i64 x.z, .int .i64 x.reach] := by rw [hA]; exact Box.alloc w _ _ _ rfl
            have hbA : Below w.heap.size w wA := by rw [hA]; (repeat (first | with_reducible exact Below.refl _ _ | with_reducible exact hbw | (with_reducible refine Below.setCell ?_ ?_ _; rotate_left; · first | exact Nat.le_refl _ | omega | (simp; done) | (simp; omega)) | (with_reducible refine Below.alloc ?_ ?_ _; rotate_left; · first | exact Nat.le_refl _ | omega | (simp; done) | (simp; omega)) | with_reducible refine below_drewN ?_ _ | with_reducible refine Below.drew ?_))
            clear hA
            refine (isNameB_any true _ _ E0.out hs).mono ?_
            rintro e w1 ⟨rfl, hb1⟩
            have hB1 := hB.mono hb1
            have hb2 := hbA.trans (hb1.mono hbA.size)
            have c1 := hB1.at' 1 _ rfl
            have c2 := hB1.at' 2 _ rfl
            have c3 := hB1.at' 3 _ rfl
            have c4 := hB1.at' 4 _ rfl
            clear hB hB1 hbA hb1
            go_wp2_with fail
            refine (within_any true x.x _ _ _ E1.out).mono ?_
            rintro e w1 ⟨rfl, rfl⟩
            go_wp2_with fail
            refine (within_any true x.y _ _ _ E2.out).mono ?_
            rintro e w1 ⟨rfl, rfl⟩
            go_wp2_with fail
            refine (within_any true x.z _ _ _ E3.out).mono ?_
            rintro e w1 ⟨rfl, rfl⟩
            go_wp2_with fail
            refine (isReach_any true x.reach _ E4.out).mono ?_
            rintro e w1 ⟨rfl, rfl⟩
            go_wp2
            go_ret
            exact ⟨by rw [HV.out]; rfl, hb2⟩
          · skip
            have HV := Lib.hid (show b = false from by
              cases hb : b
              · rfl
              · exact absurd (h.1 hb).2.2.2.2 n4)
            have E0 := Lib.hid (show true = decide (NameOk x.bell) from (decide_eq_true n0).symm)
            have E1 := Lib.hid (show true = decide (0 ≤ x.x ∧ x.x ≤ 20000) from (decide_eq_true n1).symm)
            have E2 := Lib.hid (show true = decide (0 ≤ x.y ∧ x.y ≤ 20000) from (decide_eq_true n2).symm)
            have E3 := Lib.hid (show true = decide (0 ≤ x.z ∧ x.z ≤ 20000) from (decide_eq_true n3).symm)
            have E4 := Lib.hid (show false = decide (1 ≤ x.reach ∧ x.reach ≤ 5000) from (decide_eq_false n4).symm)
            clear h n0 n1 n2 n3 n4
            go_enter Tryd.func20, Tryd.ntmps20
            go_wp2_with fail
            obtain ⟨wA, hA⟩ : ∃ wA, wA = w.alloc (Obj.cells #[.string x.bell, .int .i64 x.x, .int .i64 x.y, .int .i64 x.z, .int .i64 x.reach] 34) := ⟨_, rfl⟩
            rw [← hA]
            have hB : Box wA w.heap.size [.string x.bell, .int .i64 x.x, .int .i64 x.y, .int .i64 x.z, .int .i64 x.reach] := by rw [hA]; exact Box.alloc w _ _ _ rfl
            have hbA : Below w.heap.size w wA := by rw [hA]; (repeat (first | with_reducible exact Below.refl _ _ | with_reducible exact hbw | (with_reducible refine Below.setCell ?_ ?_ _; rotate_left; · first | exact Nat.le_refl _ | omega | (simp; done) | (simp; omega)) | (with_reducible refine Below.alloc ?_ ?_ _; rotate_left; · first | exact Nat.le_refl _ | omega | (simp; done) | (simp; omega)) | with_reducible refine below_drewN ?_ _ | with_reducible refine Below.drew ?_))
            clear hA
            refine (isNameB_any true _ _ E0.out hs).mono ?_
            rintro e w1 ⟨rfl, hb1⟩
            have hB1 := hB.mono hb1
            have hb2 := hbA.trans (hb1.mono hbA.size)
            have c1 := hB1.at' 1 _ rfl
            have c2 := hB1.at' 2 _ rfl
            have c3 := hB1.at' 3 _ rfl
            have c4 := hB1.at' 4 _ rfl
            clear hB hB1 hbA hb1
            go_wp2_with fail
            refine (within_any true x.x _ _ _ E1.out).mono ?_
            rintro e w1 ⟨rfl, rfl⟩
            go_wp2_with fail
            refine (within_any true x.y _ _ _ E2.out).mono ?_
            rintro e w1 ⟨rfl, rfl⟩
            go_wp2_with fail
            refine (within_any true x.z _ _ _ E3.out).mono ?_
            rintro e w1 ⟨rfl, rfl⟩
            go_wp2_with fail
            refine (isReach_any false x.reach _ E4.out).mono ?_
            rintro e w1 ⟨rfl, rfl⟩
            go_wp2
            go_ret
            exact ⟨by rw [HV.out]; rfl, hb2⟩
        · skip
          have HV := Lib.hid (show b = false from by
            cases hb : b
            · rfl
            · exact absurd (h.1 hb).2.2.2.1 n3)
          have E0 := Lib.hid (show true = decide (NameOk x.bell) from (decide_eq_true n0).symm)
          have E1 := Lib.hid (show true = decide (0 ≤ x.x ∧ x.x ≤ 20000) from (decide_eq_true n1).symm)
          have E2 := Lib.hid (show true = decide (0 ≤ x.y ∧ x.y ≤ 20000) from (decide_eq_true n2).symm)
          have E3 := Lib.hid (show false = decide (0 ≤ x.z ∧ x.z ≤ 20000) from (decide_eq_false n3).symm)
          clear h n0 n1 n2 n3
          go_enter Tryd.func20, Tryd.ntmps20
          go_wp2_with fail
          obtain ⟨wA, hA⟩ : ∃ wA, wA = w.alloc (Obj.cells #[.string x.bell, .int .i64 x.x, .int .i64 x.y, .int .i64 x.z, .int .i64 x.reach] 34) := ⟨_, rfl⟩
          rw [← hA]
          have hB : Box wA w.heap.size [.string x.bell, .int .i64 x.x, .int .i64 x.y, .int .i64 x.z, .int .i64 x.reach] := by rw [hA]; exact Box.alloc w _ _ _ rfl
          have hbA : Below w.heap.size w wA := by rw [hA]; (repeat (first | with_reducible exact Below.refl _ _ | with_reducible exact hbw | (with_reducible refine Below.setCell ?_ ?_ _; rotate_left; · first | exact Nat.le_refl _ | omega | (simp; done) | (simp; omega)) | (with_reducible refine Below.alloc ?_ ?_ _; rotate_left; · first | exact Nat.le_refl _ | omega | (simp; done) | (simp; omega)) | with_reducible refine below_drewN ?_ _ | with_reducible refine Below.drew ?_))
          clear hA
          refine (isNameB_any true _ _ E0.out hs).mono ?_
          rintro e w1 ⟨rfl, hb1⟩
          have hB1 := hB.mono hb1
          have hb2 := hbA.trans (hb1.mono hbA.size)
          have c1 := hB1.at' 1 _ rfl
          have c2 := hB1.at' 2 _ rfl
          have c3 := hB1.at' 3 _ rfl
          have c4 := hB1.at' 4 _ rfl
          clear hB hB1 hbA hb1
          go_wp2_with fail
          refine (within_any true x.x _ _ _ E1.out).mono ?_
          rintro e w1 ⟨rfl, rfl⟩
          go_wp2_with fail
          refine (within_any true x.y _ _ _ E2.out).mono ?_
          rintro e w1 ⟨rfl, rfl⟩
          go_wp2_with fail
          refine (within_any false x.z _ _ _ E3.out).mono ?_
          rintro e w1 ⟨rfl, rfl⟩
          go_wp2
          go_ret
          exact ⟨by rw [HV.out]; rfl, hb2⟩
      · skip
        have HV := Lib.hid (show b = false from by
          cases hb : b
          · rfl
          · exact absurd (h.1 hb).2.2.1 n2)
        have E0 := Lib.hid (show true = decide (NameOk x.bell) from (decide_eq_true n0).symm)
        have E1 := Lib.hid (show true = decide (0 ≤ x.x ∧ x.x ≤ 20000) from (decide_eq_true n1).symm)
        have E2 := Lib.hid (show false = decide (0 ≤ x.y ∧ x.y ≤ 20000) from (decide_eq_false n2).symm)
        clear h n0 n1 n2
        go_enter Tryd.func20, Tryd.ntmps20
        go_wp2_with fail
        obtain ⟨wA, hA⟩ : ∃ wA, wA = w.alloc (Obj.cells #[.string x.bell, .int .i64 x.x, .int .i64 x.y, .int .i64 x.z, .int .i64 x.reach] 34) := ⟨_, rfl⟩
        rw [← hA]
        have hB : Box wA w.heap.size [.string x.bell, .int .i64 x.x, .int .i64 x.y, .int .i64 x.z, .int .i64 x.reach] := by rw [hA]; exact Box.alloc w _ _ _ rfl
        have hbA : Below w.heap.size w wA := by rw [hA]; (repeat (first | with_reducible exact Below.refl _ _ | with_reducible exact hbw | (with_reducible refine Below.setCell ?_ ?_ _; rotate_left; · first | exact Nat.le_refl _ | omega | (simp; done) | (simp; omega)) | (with_reducible refine Below.alloc ?_ ?_ _; rotate_left; · first | exact Nat.le_refl _ | omega | (simp; done) | (simp; omega)) | with_reducible refine below_drewN ?_ _ | with_reducible refine Below.drew ?_))
        clear hA
        refine (isNameB_any true _ _ E0.out hs).mono ?_
        rintro e w1 ⟨rfl, hb1⟩
        have hB1 := hB.mono hb1
        have hb2 := hbA.trans (hb1.mono hbA.size)
        have c1 := hB1.at' 1 _ rfl
        have c2 := hB1.at' 2 _ rfl
        have c3 := hB1.at' 3 _ rfl
        have c4 := hB1.at' 4 _ rfl
        clear hB hB1 hbA hb1
        go_wp2_with fail
        refine (within_any true x.x _ _ _ E1.out).mono ?_
        rintro e w1 ⟨rfl, rfl⟩
        go_wp2_with fail
        refine (within_any false x.y _ _ _ E2.out).mono ?_
        rintro e w1 ⟨rfl, rfl⟩
        go_wp2
        go_ret
        exact ⟨by rw [HV.out]; rfl, hb2⟩
    · skip
      have HV := Lib.hid (show b = false from by
        cases hb : b
        · rfl
        · exact absurd (h.1 hb).2.1 n1)
      have E0 := Lib.hid (show true = decide (NameOk x.bell) from (decide_eq_true n0).symm)
      have E1 := Lib.hid (show false = decide (0 ≤ x.x ∧ x.x ≤ 20000) from (decide_eq_false n1).symm)
      clear h n0 n1
      go_enter Tryd.func20, Tryd.ntmps20
      go_wp2_with fail
      obtain ⟨wA, hA⟩ : ∃ wA, wA = w.alloc (Obj.cells #[.string x.bell, .int .i64 x.x, .int .i64 x.y, .int .i64 x.z, .int .i64 x.reach] 34) := ⟨_, rfl⟩
      rw [← hA]
      have hB : Box wA w.heap.size [.string x.bell, .int .i64 x.x, .int .i64 x.y, .int .i64 x.z, .int .i64 x.reach] := by rw [hA]; exact Box.alloc w _ _ _ rfl
      have hbA : Below w.heap.size w wA := by rw [hA]; (repeat (first | with_reducible exact Below.refl _ _ | with_reducible exact hbw | (with_reducible refine Below.setCell ?_ ?_ _; rotate_left; · first | exact Nat.le_refl _ | omega | (simp; done) | (simp; omega)) | (with_reducible refine Below.alloc ?_ ?_ _; rotate_left; · first | exact Nat.le_refl _ | omega | (simp; done) | (simp; omega)) | with_reducible refine below_drewN ?_ _ | with_reducible refine Below.drew ?_))
      clear hA
      refine (isNameB_any true _ _ E0.out hs).mono ?_
      rintro e w1 ⟨rfl, hb1⟩
      have hB1 := hB.mono hb1
      have hb2 := hbA.trans (hb1.mono hbA.size)
      have c1 := hB1.at' 1 _ rfl
      have c2 := hB1.at' 2 _ rfl
      have c3 := hB1.at' 3 _ rfl
      have c4 := hB1.at' 4 _ rfl
      clear hB hB1 hbA hb1
      go_wp2_with fail
      refine (within_any false x.x _ _ _ E1.out).mono ?_
      rintro e w1 ⟨rfl, rfl⟩
      go_wp2
      go_ret
      exact ⟨by rw [HV.out]; rfl, hb2⟩
  · skip
    have HV := Lib.hid (show b = false from by
      cases hb : b
      · rfl
      · exact absurd (h.1 hb).1 n0)
    have E0 := Lib.hid (show false = decide (NameOk x.bell) from (decide_eq_false n0).symm)
    clear h n0
    go_enter Tryd.func20, Tryd.ntmps20
    go_wp2_with fail
    obtain ⟨wA, hA⟩ : ∃ wA, wA = w.alloc (Obj.cells #[.string x.bell, .int .i64 x.x, .int .i64 x.y, .int .i64 x.z, .int .i64 x.reach] 34) := ⟨_, rfl⟩
    rw [← hA]
    have hB : Box wA w.heap.size [.string x.bell, .int .i64 x.x, .int .i64 x.y, .int .i64 x.z, .int .i64 x.reach] := by rw [hA]; exact Box.alloc w _ _ _ rfl
    have hbA : Below w.heap.size w wA := by rw [hA]; (repeat (first | with_reducible exact Below.refl _ _ | with_reducible exact hbw | (with_reducible refine Below.setCell ?_ ?_ _; rotate_left; · first | exact Nat.le_refl _ | omega | (simp; done) | (simp; omega)) | (with_reducible refine Below.alloc ?_ ?_ _; rotate_left; · first | exact Nat.le_refl _ | omega | (simp; done) | (simp; omega)) | with_reducible refine below_drewN ?_ _ | with_reducible refine Below.drew ?_))
    clear hA
    refine (isNameB_any false _ _ E0.out hs).mono ?_
    rintro e w1 ⟨rfl, hb1⟩
    have hB1 := hB.mono hb1
    have hb2 := hbA.trans (hb1.mono hbA.size)
    have c1 := hB1.at' 1 _ rfl
    have c2 := hB1.at' 2 _ rfl
    have c3 := hB1.at' 3 _ rfl
    have c4 := hB1.at' 4 _ rfl
    clear hB hB1 hbA hb1
    go_wp2
    go_ret
    exact ⟨by rw [HV.out]; rfl, hb2⟩

noncomputable instance (xs : List PlcD) : Decidable (PlcsOk xs) := Classical.propDecidable _
noncomputable def plcsB (xs : List PlcD) : Bool := decide (PlcsOk xs)
theorem plcsB_iff {xs : List PlcD} : plcsB xs = true ↔ PlcsOk xs := by simp [plcsB]
theorem finplcsB {xs : List PlcD} {b : Bool} (h : PlcsOk xs ↔ b = true) : b = plcsB xs := by cases b <;> simp [plcsB] at h ⊢ <;> exact h

set_option maxHeartbeats 2000000 in
theorem ValidPlaces_any (v : Value) (x : List PlcD) (w : World) (h : RdPlcDs w v x) (ok : okPlcDs x) :
    Calls Tryd.prog 16 #[v] w fun e w' => e = .returned (.bool (plcsB x)) ∧ Below w.heap.size w w' := by
  obtain ⟨a, ca, rfl, hm⟩ := h.form'
  unfold maxLen at hm
  have OK := Lib.hid ok; clear ok
  go_enter Tryd.func16, Tryd.ntmps16
  go_wp2_with fail
  go_loopw [7, 3, 4] (fun i _ _ wr => ∃ k : Nat, k ≤ x.length ∧ i = .int .i64 k ∧ (∀ i, i < k → PlcAt x i) ∧ Below w.heap.size w wr) (fun i _ _ _ => x.length - (intOf i).toNat)
  case atStart => exact ⟨0, Nat.zero_le _, rfl, by intro i h; omega, Below.refl _ _⟩
  case round =>
    obtain ⟨k, hk, rfl, ht', hb⟩ := hrel
    have ht := Lib.hid ht'; clear ht'
    by_cases hlt : k < x.length
    · obtain ⟨b1, o1, rfl, hA⟩ := (h.mono hb).at hlt
      have hs := (OK.out _ (List.getElem_mem hlt)).1
      obtain ⟨hB, u0, u1, u2, u3, u4⟩ := id hA
      have l1 : b1 < wr.heap.size + 1 := by omega
      have HA := Lib.hid hA; clear hA
      by_cases g : plcOk x[k]
      · by_cases h0 : 0 < k
        · have hk1 : k - 1 < x.length := by omega
          obtain ⟨b2, o2, e2, hA2⟩ := (h.mono hb).at hk1
          simp only [Option.some.injEq, Addr.mk.injEq, and_true] at e2
          obtain ⟨rfl, rfl⟩ := e2
          have p0 := hA2.c0
          have z0 : decide (0 < (k : Int)) = true := by simpa using h0
          have z1 : ((k : Int) - 1).toNat = k - 1 := by omega
          have w2' : IntKind.i64.wrap ((k : Int) - 1) = (k : Int) - 1 := IntWalk.i64_in _ (by omega)
          have w3' : (1 : Int) ≤ (k : Int) := by omega
          have w4' : (k : Int) - 1 < (x.length : Int) := by omega
          clear hA2
          by_cases g2 : Go.Op.bytesLess x[k - 1].bell.toList x[k].bell.toList = true
          · have d1 : (Go.Op.bytesLess x[k].bell.toList x[k - 1].bell.toList || x[k].bell.toList == x[k - 1].bell.toList) = false := by rw [less_total, g2]; rfl
            obtain ⟨d2, d3⟩ := Bool.or_eq_false_iff.1 d1
            have G := Lib.hid g; have G2 := Lib.hid g2; clear g g2 d1
            go_wp2_with fail
            refine wp_region_ord [(0, true), (1, false), (2, true), (3, true), (4, true), (5, true), (6, true), (7, true), (8, true), (9, true), (10, true), (11, true), (12, true), (13, true), (14, true), (15, true), (16, true), (17, true)] (none) (by kernel_rfl) (by kernel_rfl) ?_
            (repeat (with_reducible refine wpOrd_soft (fun K hK => ?_); simp only [List.getElem?_toArray, List.getElem?_cons_zero, List.getElem?_cons_succ]; first | (go_simp; refine hK _ ?_) | (simp only [undef]; go_simp; refine hK _ ?_); clear hK K))
            (with_reducible refine wpOrd_hard ?_; simp only [List.getElem?_toArray, List.getElem?_cons_zero, List.getElem?_cons_succ])
            go_wp2_with fail
            refine (validPlace_any true x[k] _ ⟨fun _ => G.out, fun _ => rfl⟩ hs).mono ?_
            rintro e w2 ⟨rfl, hb1⟩
            have hb1 := undrew hb1
            go_wp2_with fail
            refine ⟨grown_of_below hb1, ?_⟩
            (repeat (with_reducible refine wpOrd_soft (fun K hK => ?_); simp only [List.getElem?_toArray, List.getElem?_cons_zero, List.getElem?_cons_succ]; first | (go_simp; refine hK _ ?_) | (simp only [undef]; go_simp; refine hK _ ?_); clear hK K))
            (with_reducible refine wpOrd_nil ?_); refine NoPanic.normal ?_
            have hb2 : Below w.heap.size w w2 := hb.trans ((Below.trans (by (repeat (first | with_reducible exact Below.refl _ _ | with_reducible exact hbw | (with_reducible refine Below.setCell ?_ ?_ _; rotate_left; · first | exact Nat.le_refl _ | omega | (simp; done) | (simp; omega)) | (with_reducible refine Below.alloc ?_ ?_ _; rotate_left; · first | exact Nat.le_refl _ | omega | (simp; done) | (simp; omega)) | with_reducible refine below_drewN ?_ _ | with_reducible refine Below.drew ?_))) (hb1.mono (by simp))).mono hb.size)
            clear w2'
            go_wp2
            go_roundw
            case rel => exact ⟨k + 1, by omega, by go_num, lt_step ht.out (fun _ => ⟨G.out, fun _ => G2.out⟩), hb2⟩
            case measure => simp [intOf]; omega
          · have H := Lib.hid (show ¬ PlcsOk x from fun h => g2 ((h.all k hlt hlt).2 h0))
            have d1 : (Go.Op.bytesLess x[k].bell.toList x[k - 1].bell.toList || x[k].bell.toList == x[k - 1].bell.toList) = true := by rw [less_total, show Go.Op.bytesLess x[k - 1].bell.toList x[k].bell.toList = false by simpa using g2]; rfl
            have G := Lib.hid g; clear g g2
            go_wp2_with fail
            refine wp_region_ord [(0, true), (1, false), (2, true), (3, true), (4, true), (5, true), (6, true), (7, true), (8, true), (9, true), (10, true), (11, true), (12, true), (13, true), (14, true), (15, true), (16, true), (17, true)] (none) (by kernel_rfl) (by kernel_rfl) ?_
            (repeat (with_reducible refine wpOrd_soft (fun K hK => ?_); simp only [List.getElem?_toArray, List.getElem?_cons_zero, List.getElem?_cons_succ]; first | (go_simp; refine hK _ ?_) | (simp only [undef]; go_simp; refine hK _ ?_); clear hK K))
            (with_reducible refine wpOrd_hard ?_; simp only [List.getElem?_toArray, List.getElem?_cons_zero, List.getElem?_cons_succ])
            go_wp2_with fail
            refine (validPlace_any true x[k] _ ⟨fun _ => G.out, fun _ => rfl⟩ hs).mono ?_
            rintro e w2 ⟨rfl, hb1⟩
            have hb1 := undrew hb1
            go_wp2_with fail
            refine ⟨grown_of_below hb1, ?_⟩
            (repeat (with_reducible refine wpOrd_soft (fun K hK => ?_); simp only [List.getElem?_toArray, List.getElem?_cons_zero, List.getElem?_cons_succ]; first | (go_simp; refine hK _ ?_) | (simp only [undef]; go_simp; refine hK _ ?_); clear hK K))
            (with_reducible refine wpOrd_nil ?_); refine NoPanic.normal ?_
            have hb2 : Below w.heap.size w w2 := hb.trans ((Below.trans (by (repeat (first | with_reducible exact Below.refl _ _ | with_reducible exact hbw | (with_reducible refine Below.setCell ?_ ?_ _; rotate_left; · first | exact Nat.le_refl _ | omega | (simp; done) | (simp; omega)) | (with_reducible refine Below.alloc ?_ ?_ _; rotate_left; · first | exact Nat.le_refl _ | omega | (simp; done) | (simp; omega)) | with_reducible refine below_drewN ?_ _ | with_reducible refine Below.drew ?_))) (hb1.mono (by simp))).mono hb.size)
            clear w2'
            go_wp2
            go_ret
            exact ⟨ret_bool (finplcsB (by simpa using H.out)), hb2⟩
        · have z0 : decide (0 < (k : Int)) = false := by simpa using h0
          have w2' : True := trivial
          have G := Lib.hid g; clear g
          go_wp2_with fail
          refine wp_region_ord [(0, true), (1, false), (2, true), (3, true), (4, true), (5, true), (6, true), (7, true), (8, true), (9, true), (10, true), (11, true), (12, true), (13, true), (14, true), (15, true), (16, true), (17, true)] (none) (by kernel_rfl) (by kernel_rfl) ?_
          (repeat (with_reducible refine wpOrd_soft (fun K hK => ?_); simp only [List.getElem?_toArray, List.getElem?_cons_zero, List.getElem?_cons_succ]; first | (go_simp; refine hK _ ?_) | (simp only [undef]; go_simp; refine hK _ ?_); clear hK K))
          (with_reducible refine wpOrd_hard ?_; simp only [List.getElem?_toArray, List.getElem?_cons_zero, List.getElem?_cons_succ])
          go_wp2_with fail
          refine (validPlace_any true x[k] _ ⟨fun _ => G.out, fun _ => rfl⟩ hs).mono ?_
          rintro e w2 ⟨rfl, hb1⟩
          have hb1 := undrew hb1
          go_wp2_with fail
          refine ⟨grown_of_below hb1, ?_⟩
          (repeat (with_reducible refine wpOrd_soft (fun K hK => ?_); simp only [List.getElem?_toArray, List.getElem?_cons_zero, List.getElem?_cons_succ]; first | (go_simp; refine hK _ ?_) | (simp only [undef]; go_simp; refine hK _ ?_); clear hK K))
          (with_reducible refine wpOrd_nil ?_); refine NoPanic.normal ?_
          have hb2 : Below w.heap.size w w2 := hb.trans ((Below.trans (by (repeat (first | with_reducible exact Below.refl _ _ | with_reducible exact hbw | (with_reducible refine Below.setCell ?_ ?_ _; rotate_left; · first | exact Nat.le_refl _ | omega | (simp; done) | (simp; omega)) | (with_reducible refine Below.alloc ?_ ?_ _; rotate_left; · first | exact Nat.le_refl _ | omega | (simp; done) | (simp; omega)) | with_reducible refine below_drewN ?_ _ | with_reducible refine Below.drew ?_))) (hb1.mono (by simp))).mono hb.size)
          clear w2'
          go_wp2
          go_roundw
          case rel => exact ⟨k + 1, by omega, by go_num, lt_step ht.out (fun _ => ⟨G.out, fun h => absurd h (by omega)⟩), hb2⟩
          case measure => simp [intOf]; omega
      · have H := Lib.hid (show ¬ PlcsOk x from fun h => g (h.all k hlt hlt).1)
        have w2' : True := trivial
        have G := Lib.hid g; clear g
        go_wp2_with fail
        refine wp_region_ord [(0, true), (1, false), (2, true), (3, true), (4, true), (5, true), (6, true), (7, true), (8, true), (9, true), (10, true), (11, true), (12, true), (13, true), (14, true), (15, true), (16, true), (17, true)] (none) (by kernel_rfl) (by kernel_rfl) ?_
        (repeat (with_reducible refine wpOrd_soft (fun K hK => ?_); simp only [List.getElem?_toArray, List.getElem?_cons_zero, List.getElem?_cons_succ]; first | (go_simp; refine hK _ ?_) | (simp only [undef]; go_simp; refine hK _ ?_); clear hK K))
        (with_reducible refine wpOrd_hard ?_; simp only [List.getElem?_toArray, List.getElem?_cons_zero, List.getElem?_cons_succ])
        go_wp2_with fail
        refine (validPlace_any false x[k] _ ⟨(fun h => by cases h), fun h => absurd h G.out⟩ hs).mono ?_
        rintro e w2 ⟨rfl, hb1⟩
        have hb1 := undrew hb1
        go_wp2_with fail
        refine ⟨grown_of_below hb1, ?_⟩
        (repeat (with_reducible refine wpOrd_soft (fun K hK => ?_); simp only [List.getElem?_toArray, List.getElem?_cons_zero, List.getElem?_cons_succ]; first | (go_simp; refine hK _ ?_) | (simp only [undef]; go_simp; refine hK _ ?_); clear hK K))
        (with_reducible refine wpOrd_nil ?_); refine NoPanic.normal ?_
        have hb2 : Below w.heap.size w w2 := hb.trans ((Below.trans (by (repeat (first | with_reducible exact Below.refl _ _ | with_reducible exact hbw | (with_reducible refine Below.setCell ?_ ?_ _; rotate_left; · first | exact Nat.le_refl _ | omega | (simp; done) | (simp; omega)) | (with_reducible refine Below.alloc ?_ ?_ _; rotate_left; · first | exact Nat.le_refl _ | omega | (simp; done) | (simp; omega)) | with_reducible refine below_drewN ?_ _ | with_reducible refine Below.drew ?_))) (hb1.mono (by simp))).mono hb.size)
        clear w2'
        go_wp2
        go_ret
        exact ⟨ret_bool (finplcsB (by simpa using H.out)), hb2⟩
    · have T := Lib.hid (show ∀ k, k < x.length → PlcAt x k from fun i hi => ht.out i (by omega))
      have H := Lib.hid (show decide ((x.length : Int) ≤ 24) = plcsB x from finplcsB ⟨fun h => by have := h.len; simp; omega, fun h => ⟨T.out, by have := of_decide_eq_true h; omega⟩⟩)
      go_wp2
      go_ret
      exact ⟨ret_bool H.out, hb⟩


end Go.Proofs.YteaijhmgfddjiaaDoor
