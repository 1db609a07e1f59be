/- Validity of bays and castings, both packages. -/
import Derived.Test.YteaijhmgfddjiaaBayD
import Derived.Test.YteaijhmgfddjiaaCasD
import Derived.Test.YteaijhmgfddjiaaName
import Derived.Test.YteaijhmgfddjiaaWithin
import Derived.Test.YteaijhmgfddjiaaBox
import Derived.IntWalk
import Derived.Deep.QuietTactic
import Derived.BigQuiet
set_option linter.unusedSimpArgs false
set_option linter.unnecessarySimpa false
set_option linter.unusedVariables false
set_option maxRecDepth 100000
namespace Go.Proofs.Yteaijhmgfddjiaa
open Go.RowKit

theorem less_total : ∀ (a b : List UInt8), (Go.Op.bytesLess b a || b == a) = !Go.Op.bytesLess a b
  | [], [] => rfl
  | [], _ :: _ => rfl
  | _ :: _, [] => rfl
  | a :: x, b :: y => by
    have ih := less_total x y
    simp only [Go.Op.bytesLess]
    rcases Nat.lt_trichotomy a.toNat b.toNat with h | h | h
    · have h1 : (a < b) = True := by simp [UInt8.lt_iff_toNat_lt, h]
      have h2 : (b < a) = False := by simp [UInt8.lt_iff_toNat_lt]; omega
      have h3 : a ≠ b := fun e => by subst e; omega
      simp [h1, h2, h3, Ne.symm h3]
    · have h3 : a = b := UInt8.toNat_inj.1 h
      subst h3
      have h1 : (a < a) = False := by simp
      simp [h1] at ih ⊢
      exact ih
    · have h1 : (b < a) = True := by simp [UInt8.lt_iff_toNat_lt, h]
      have h2 : (a < b) = False := by simp [UInt8.lt_iff_toNat_lt]; omega
      have h3 : a ≠ b := fun e => by subst e; omega
      simp [h1, h2, h3, Ne.symm h3]

def bayOk (x : BayD) : Prop := NameOk x.id ∧ (1 ≤ x.radius ∧ x.radius ≤ 300000) ∧ (1 ≤ x.depth ∧ x.depth ≤ 300000)
def casOk (x : CasD) : Prop := NameOk x.bell ∧ (1 ≤ x.radius ∧ x.radius ≤ 300000) ∧ (1 ≤ x.depth ∧ x.depth ≤ 300000) ∧ (1 ≤ x.thick ∧ x.thick ≤ 30000) ∧ (0 ≤ x.since ∧ x.since ≤ 1000000)

theorem isExtent_any (b : Bool) (n : Int) (w : World) (h : b = decide (1 ≤ n ∧ n ≤ 300000)) : Calls Try.prog 69 #[.int .i64 n] w fun e w' => e = .returned (.bool b) ∧ w' = w := by
  have H := Lib.hid h; clear h
  go_enter Try.func69, Try.ntmps69
  go_wp2_with fail
  refine (within_any b n _ _ _ H.out).mono ?_
  rintro e w1 ⟨rfl, rfl⟩
  go_wp2
  go_ret
  exact ⟨rfl, rfl⟩
theorem isThick_any (b : Bool) (n : Int) (w : World) (h : b = decide (1 ≤ n ∧ n ≤ 30000)) : Calls Try.prog 70 #[.int .i64 n] w fun e w' => e = .returned (.bool b) ∧ w' = w := by
  have H := Lib.hid h; clear h
  go_enter Try.func70, Try.ntmps70
  go_wp2_with fail
  refine (within_any b n _ _ _ H.out).mono ?_
  rintro e w1 ⟨rfl, rfl⟩
  go_wp2
  go_ret
  exact ⟨rfl, rfl⟩
theorem isMinute_any (b : Bool) (n : Int) (w : World) (h : b = decide (0 ≤ n ∧ n ≤ 1000000)) : Calls Try.prog 44 #[.int .i64 n] w fun e w' => e = .returned (.bool b) ∧ w' = w := by
  have H := Lib.hid h; clear h
  go_enter Try.func44, Try.ntmps44
  go_wp2_with fail
  refine (within_any b n _ _ _ H.out).mono ?_
  rintro e w1 ⟨rfl, rfl⟩
  go_wp2
  go_ret
  exact ⟨rfl, rfl⟩
theorem isBudget_any (b : Bool) (n : Int) (w : World) (h : b = decide (1 ≤ n ∧ n ≤ 20000)) : Calls Try.prog 58 #[.int .i64 n] w fun e w' => e = .returned (.bool b) ∧ w' = w := by
  have H := Lib.hid h; clear h
  go_enter Try.func58, Try.ntmps58
  go_wp2_with fail
  refine (within_any b n _ _ _ H.out).mono ?_
  rintro e w1 ⟨rfl, rfl⟩
  go_wp2
  go_ret
  exact ⟨rfl, rfl⟩
theorem l16Size_any (b : Bool) (n : Int) (w : World) (h : b = decide (1 ≤ n ∧ n ≤ 300000)) : Calls Try.prog 91 #[.int .i64 n] w fun e w' => e = .returned (.bool b) ∧ w' = w := by
  have H := Lib.hid h; clear h
  go_enter Try.func91, Try.ntmps91
  go_wp2_with fail
  refine (l00In_any b n _ _ _ H.out).mono ?_
  rintro e w1 ⟨rfl, rfl⟩
  go_wp2
  go_ret
  exact ⟨rfl, rfl⟩
theorem l16Thick_any (b : Bool) (n : Int) (w : World) (h : b = decide (1 ≤ n ∧ n ≤ 30000)) : Calls Try.prog 92 #[.int .i64 n] w fun e w' => e = .returned (.bool b) ∧ w' = w := by
  have H := Lib.hid h; clear h
  go_enter Try.func92, Try.ntmps92
  go_wp2_with fail
  refine (l00In_any b n _ _ _ H.out).mono ?_
  rintro e w1 ⟨rfl, rfl⟩
  go_wp2
  go_ret
  exact ⟨rfl, rfl⟩

theorem isNameB_any (b : Bool) (s : ByteArray) (w : World) (h : b = decide (NameOk s)) (hs : s.size ≤ maxLen) :
    Calls Try.prog 68 #[.string s] w fun e w' => e = .returned (.bool b) ∧ Below w.heap.size w w' := by
  subst h
  exact isName_any s w hs
theorem l01NameB_any (b : Bool) (s : ByteArray) (w : World) (h : b = decide (NameOk s)) (hs : s.size ≤ maxLen) :
    Calls Try.prog 90 #[.string s] w fun e w' => e = .returned (.bool b) ∧ w' = w := by
  subst h
  exact l01Name_any s w hs

set_option maxHeartbeats 1000000 in
theorem validBay_any (b : Bool) (x : BayD) (w : World) (h : b = true ↔ bayOk x) (hs : x.id.size ≤ maxLen) :
    Calls Try.prog 63 #[.agg #[.string x.id, .int .i64 x.radius, .int .i64 x.depth]] w fun e w' => e = .returned (.bool b) ∧ Below w.heap.size w w' := by
  by_cases n0 : NameOk x.id
  · skip
    by_cases n1 : 1 ≤ x.radius ∧ x.radius ≤ 300000
    · skip
      by_cases n2 : 1 ≤ x.depth ∧ x.depth ≤ 300000
      · skip
        have HV := Lib.hid (show b = true from h.2 ⟨n0, n1, n2⟩)
        have E0 := Lib.hid (show true = decide (NameOk x.id) from (decide_eq_true n0).symm)
        have E1 := Lib.hid (show true = decide (1 ≤ x.radius ∧ x.radius ≤ 300000) from (decide_eq_true n1).symm)
        have E2 := Lib.hid (show true = decide (1 ≤ x.depth ∧ x.depth ≤ 300000) from (decide_eq_true n2).symm)
        clear h n0 n1 n2
        go_enter Try.func63, Try.ntmps63
        go_wp2_with fail
        obtain ⟨wA, hA⟩ : ∃ wA, wA = w.alloc (Obj.cells #[.string x.id, .int .i64 x.radius, .int .i64 x.depth] 79) := ⟨_, rfl⟩
        rw [← hA]
        have hB : Box wA w.heap.size [.string x.id, .int .i64 x.radius, .int .i64 x.depth] := by rw [hA]; exact Box.alloc w _ _ _ rfl
        have hbA : Below w.heap.size w wA := by rw [hA]; (repeat (first | with_reducible exact Below.refl _ _ | with_reducible exact hbw | (with_reducible refine Below.setCell ?_ ?_ _; rotate_left; · first | exact Nat.le_refl _ | omega | (simp; done) | (simp; omega)) | (with_reducible refine Below.alloc ?_ ?_ _; rotate_left; · first | exact Nat.le_refl _ | omega | (simp; done) | (simp; omega)) | with_reducible refine below_drewN ?_ _ | with_reducible refine Below.drew ?_))
        clear hA
        refine (isNameB_any true _ _ E0.out hs).mono ?_
        rintro e w1 ⟨rfl, hb1⟩
        have hB1 := hB.mono hb1
        have hb2 := hbA.trans (hb1.mono hbA.size)
        have c1 := hB1.at' 1 _ rfl
        have c2 := hB1.at' 2 _ rfl
        clear hB hB1 hbA hb1
        go_wp2_with fail
        refine (isExtent_any true x.radius _ E1.out).mono ?_
        rintro e w1 ⟨rfl, rfl⟩
        go_wp2_with fail
        refine (isExtent_any true x.depth _ E2.out).mono ?_
        rintro e w1 ⟨rfl, rfl⟩
        go_wp2
        go_ret
        exact ⟨by rw [HV.out]; rfl, hb2⟩
      · skip
        have HV := Lib.hid (show b = false from by
          cases hb : b
          · rfl
          · exact absurd (h.1 hb).2.2 n2)
        have E0 := Lib.hid (show true = decide (NameOk x.id) from (decide_eq_true n0).symm)
        have E1 := Lib.hid (show true = decide (1 ≤ x.radius ∧ x.radius ≤ 300000) from (decide_eq_true n1).symm)
        have E2 := Lib.hid (show false = decide (1 ≤ x.depth ∧ x.depth ≤ 300000) from (decide_eq_false n2).symm)
        clear h n0 n1 n2
        go_enter Try.func63, Try.ntmps63
        go_wp2_with fail
        obtain ⟨wA, hA⟩ : ∃ wA, wA = w.alloc (Obj.cells #[.string x.id, .int .i64 x.radius, .int .i64 x.depth] 79) := ⟨_, rfl⟩
        rw [← hA]
        have hB : Box wA w.heap.size [.string x.id, .int .i64 x.radius, .int .i64 x.depth] := by rw [hA]; exact Box.alloc w _ _ _ rfl
        have hbA : Below w.heap.size w wA := by rw [hA]; (repeat (first | with_reducible exact Below.refl _ _ | with_reducible exact hbw | (with_reducible refine Below.setCell ?_ ?_ _; rotate_left; · first | exact Nat.le_refl _ | omega | (simp; done) | (simp; omega)) | (with_reducible refine Below.alloc ?_ ?_ _; rotate_left; · first | exact Nat.le_refl _ | omega | (simp; done) | (simp; omega)) | with_reducible refine below_drewN ?_ _ | with_reducible refine Below.drew ?_))
        clear hA
        refine (isNameB_any true _ _ E0.out hs).mono ?_
        rintro e w1 ⟨rfl, hb1⟩
        have hB1 := hB.mono hb1
        have hb2 := hbA.trans (hb1.mono hbA.size)
        have c1 := hB1.at' 1 _ rfl
        have c2 := hB1.at' 2 _ rfl
        clear hB hB1 hbA hb1
        go_wp2_with fail
        refine (isExtent_any true x.radius _ E1.out).mono ?_
        rintro e w1 ⟨rfl, rfl⟩
        go_wp2_with fail
        refine (isExtent_any false x.depth _ E2.out).mono ?_
        rintro e w1 ⟨rfl, rfl⟩
        go_wp2
        go_ret
        exact ⟨by rw [HV.out]; rfl, hb2⟩
    · skip
      have HV := Lib.hid (show b = false from by
        cases hb : b
        · rfl
        · exact absurd (h.1 hb).2.1 n1)
      have E0 := Lib.hid (show true = decide (NameOk x.id) from (decide_eq_true n0).symm)
      have E1 := Lib.hid (show false = decide (1 ≤ x.radius ∧ x.radius ≤ 300000) from (decide_eq_false n1).symm)
      clear h n0 n1
      go_enter Try.func63, Try.ntmps63
      go_wp2_with fail
      obtain ⟨wA, hA⟩ : ∃ wA, wA = w.alloc (Obj.cells #[.string x.id, .int .i64 x.radius, .int .i64 x.depth] 79) := ⟨_, rfl⟩
      rw [← hA]
      have hB : Box wA w.heap.size [.string x.id, .int .i64 x.radius, .int .i64 x.depth] := by rw [hA]; exact Box.alloc w _ _ _ rfl
      have hbA : Below w.heap.size w wA := by rw [hA]; (repeat (first | with_reducible exact Below.refl _ _ | with_reducible exact hbw | (with_reducible refine Below.setCell ?_ ?_ _; rotate_left; · first | exact Nat.le_refl _ | omega | (simp; done) | (simp; omega)) | (with_reducible refine Below.alloc ?_ ?_ _; rotate_left; · first | exact Nat.le_refl _ | omega | (simp; done) | (simp; omega)) | with_reducible refine below_drewN ?_ _ | with_reducible refine Below.drew ?_))
      clear hA
      refine (isNameB_any true _ _ E0.out hs).mono ?_
      rintro e w1 ⟨rfl, hb1⟩
      have hB1 := hB.mono hb1
      have hb2 := hbA.trans (hb1.mono hbA.size)
      have c1 := hB1.at' 1 _ rfl
      have c2 := hB1.at' 2 _ rfl
      clear hB hB1 hbA hb1
      go_wp2_with fail
      refine (isExtent_any false x.radius _ E1.out).mono ?_
      rintro e w1 ⟨rfl, rfl⟩
      go_wp2
      go_ret
      exact ⟨by rw [HV.out]; rfl, hb2⟩
  · skip
    have HV := Lib.hid (show b = false from by
      cases hb : b
      · rfl
      · exact absurd (h.1 hb).1 n0)
    have E0 := Lib.hid (show false = decide (NameOk x.id) from (decide_eq_false n0).symm)
    clear h n0
    go_enter Try.func63, Try.ntmps63
    go_wp2_with fail
    obtain ⟨wA, hA⟩ : ∃ wA, wA = w.alloc (Obj.cells #[.string x.id, .int .i64 x.radius, .int .i64 x.depth] 79) := ⟨_, rfl⟩
    rw [← hA]
    have hB : Box wA w.heap.size [.string x.id, .int .i64 x.radius, .int .i64 x.depth] := by rw [hA]; exact Box.alloc w _ _ _ rfl
    have hbA : Below w.heap.size w wA := by rw [hA]; (repeat (first | with_reducible exact Below.refl _ _ | with_reducible exact hbw | (with_reducible refine Below.setCell ?_ ?_ _; rotate_left; · first | exact Nat.le_refl _ | omega | (simp; done) | (simp; omega)) | (with_reducible refine Below.alloc ?_ ?_ _; rotate_left; · first | exact Nat.le_refl _ | omega | (simp; done) | (simp; omega)) | with_reducible refine below_drewN ?_ _ | with_reducible refine Below.drew ?_))
    clear hA
    refine (isNameB_any false _ _ E0.out hs).mono ?_
    rintro e w1 ⟨rfl, hb1⟩
    have hB1 := hB.mono hb1
    have hb2 := hbA.trans (hb1.mono hbA.size)
    have c1 := hB1.at' 1 _ rfl
    have c2 := hB1.at' 2 _ rfl
    clear hB hB1 hbA hb1
    go_wp2
    go_ret
    exact ⟨by rw [HV.out]; rfl, hb2⟩

set_option maxHeartbeats 1000000 in
theorem l16Bay_any (b : Bool) (x : BayD) (g off : Nat) (w : World) (h : b = true ↔ bayOk x) (hs : x.id.size ≤ maxLen) (hx : BayDIn w g off x) :
    Calls Try.prog 82 #[.pointer (some ⟨g, off, none⟩)] w fun e w' => e = .returned (.bool b) ∧ w' = w := by
  obtain ⟨l0, c0, c1, c2⟩ := hx
  by_cases n0 : NameOk x.id
  · skip
    by_cases n1 : 1 ≤ x.radius ∧ x.radius ≤ 300000
    · skip
      by_cases n2 : 1 ≤ x.depth ∧ x.depth ≤ 300000
      · skip
        have HV := Lib.hid (show b = true from h.2 ⟨n0, n1, n2⟩)
        have E0 := Lib.hid (show true = decide (NameOk x.id) from (decide_eq_true n0).symm)
        have E1 := Lib.hid (show true = decide (1 ≤ x.radius ∧ x.radius ≤ 300000) from (decide_eq_true n1).symm)
        have E2 := Lib.hid (show true = decide (1 ≤ x.depth ∧ x.depth ≤ 300000) from (decide_eq_true n2).symm)
        clear h n0 n1 n2
        go_enter Try.func82, Try.ntmps82
        go_wp2_with fail
        refine (l01NameB_any true _ _ E0.out hs).mono ?_
        rintro e w1 ⟨rfl, rfl⟩
        go_wp2_with fail
        refine (l16Size_any true x.radius _ E1.out).mono ?_
        rintro e w1 ⟨rfl, rfl⟩
        go_wp2_with fail
        refine (l16Size_any true x.depth _ E2.out).mono ?_
        rintro e w1 ⟨rfl, rfl⟩
        go_wp2
        go_ret
        exact ⟨by rw [HV.out]; rfl, rfl⟩
      · skip
        have HV := Lib.hid (show b = false from by
          cases hb : b
          · rfl
          · exact absurd (h.1 hb).2.2 n2)
        have E0 := Lib.hid (show true = decide (NameOk x.id) from (decide_eq_true n0).symm)
        have E1 := Lib.hid (show true = decide (1 ≤ x.radius ∧ x.radius ≤ 300000) from (decide_eq_true n1).symm)
        have E2 := Lib.hid (show false = decide (1 ≤ x.depth ∧ x.depth ≤ 300000) from (decide_eq_false n2).symm)
        clear h n0 n1 n2
        go_enter Try.func82, Try.ntmps82
        go_wp2_with fail
        refine (l01NameB_any true _ _ E0.out hs).mono ?_
        rintro e w1 ⟨rfl, rfl⟩
        go_wp2_with fail
        refine (l16Size_any true x.radius _ E1.out).mono ?_
        rintro e w1 ⟨rfl, rfl⟩
        go_wp2_with fail
        refine (l16Size_any false x.depth _ E2.out).mono ?_
        rintro e w1 ⟨rfl, rfl⟩
        go_wp2
        go_ret
        exact ⟨by rw [HV.out]; rfl, rfl⟩
    · skip
      have HV := Lib.hid (show b = false from by
        cases hb : b
        · rfl
        · exact absurd (h.1 hb).2.1 n1)
      have E0 := Lib.hid (show true = decide (NameOk x.id) from (decide_eq_true n0).symm)
      have E1 := Lib.hid (show false = decide (1 ≤ x.radius ∧ x.radius ≤ 300000) from (decide_eq_false n1).symm)
      clear h n0 n1
      go_enter Try.func82, Try.ntmps82
      go_wp2_with fail
      refine (l01NameB_any true _ _ E0.out hs).mono ?_
      rintro e w1 ⟨rfl, rfl⟩
      go_wp2_with fail
      refine (l16Size_any false x.radius _ E1.out).mono ?_
      rintro e w1 ⟨rfl, rfl⟩
      go_wp2
      go_ret
      exact ⟨by rw [HV.out]; rfl, rfl⟩
  · skip
    have HV := Lib.hid (show b = false from by
      cases hb : b
      · rfl
      · exact absurd (h.1 hb).1 n0)
    have E0 := Lib.hid (show false = decide (NameOk x.id) from (decide_eq_false n0).symm)
    clear h n0
    go_enter Try.func82, Try.ntmps82
    go_wp2_with fail
    refine (l01NameB_any false _ _ E0.out hs).mono ?_
    rintro e w1 ⟨rfl, rfl⟩
    go_wp2
    go_ret
    exact ⟨by rw [HV.out]; rfl, rfl⟩

set_option maxHeartbeats 1000000 in
theorem validCasting_any (b : Bool) (x : CasD) (w : World) (h : b = true ↔ casOk x) (hs : x.bell.size ≤ maxLen) :
    Calls Try.prog 46 #[.agg #[.string x.bell, .int .i64 x.radius, .int .i64 x.depth, .int .i64 x.thick, .int .i64 x.since]] w fun e w' => e = .returned (.bool b) ∧ Below w.heap.size w w' := by
  by_cases n0 : NameOk x.bell
  · skip
    by_cases n1 : 1 ≤ x.radius ∧ x.radius ≤ 300000
    · skip
      by_cases n2 : 1 ≤ x.depth ∧ x.depth ≤ 300000
      · skip
        by_cases n3 : 1 ≤ x.thick ∧ x.thick ≤ 30000
        · skip
          by_cases n4 : 0 ≤ x.since ∧ x.since ≤ 1000000
          · skip
            have HV := Lib.hid (show b = true from h.2 ⟨n0, n1, n2, n3, n4⟩)
            have E0 := Lib.hid (show true = decide (NameOk x.bell) from (decide_eq_true n0).symm)
            have E1 := Lib.hid (show true = decide (1 ≤ x.radius ∧ x.radius ≤ 300000) from (decide_eq_true n1).symm)
            have E2 := Lib.hid (show true = decide (1 ≤ x.depth ∧ x.depth ≤ 300000) from (decide_eq_true n2).symm)
            have E3 := Lib.hid (show true = decide (1 ≤ x.thick ∧ x.thick ≤ 30000) from (decide_eq_true n3).symm)
            have E4 := Lib.hid (show true = decide (0 ≤ x.since ∧ x.since ≤ 1000000) from (decide_eq_true n4).symm)
            clear h n0 n1 n2 n3 n4
            go_enter Try.func46, Try.ntmps46
            go_wp2_with fail
            obtain ⟨wA, hA⟩ : ∃ wA, wA = w.alloc (Obj.cells #[.string x.bell, .int .i64 x.radius, .int .i64 x.depth, .int .i64 x.thick, .int .i64 x.since] 41) := ⟨_, rfl⟩
            rw [← hA]
            have hB : Box wA w.heap.size [.string x.bell, .int .i64 x.radius, .int .i64 x.depth, .int .i64 x.thick, .int .i64 x.since] := by rw [hA]; exact Box.alloc w _ _ _ rfl
            have hbA : Below w.heap.size w wA := by rw [hA]; (repeat (first | with_reducible exact Below.refl _ _ | with_reducible exact hbw | (with_reducible refine Below.setCell ?_ ?_ _; rotate_left; · first | exact Nat.le_refl _ | omega | (simp; done) | (simp; omega)) | (with_reducible refine Below.alloc ?_ ?_ _; rotate_left; · first | exact Nat.le_refl _ | omega | (simp; done) | (simp; omega)) | with_reducible refine below_drewN ?_ _ | with_reducible refine Below.drew ?_))
            clear hA
            refine (isNameB_any true _ _ E0.out hs).mono ?_
            rintro e w1 ⟨rfl, hb1⟩
            have hB1 := hB.mono hb1
            have hb2 := hbA.trans (hb1.mono hbA.size)
            have c1 := hB1.at' 1 _ rfl
            have c2 := hB1.at' 2 _ rfl
            have c3 := hB1.at' 3 _ rfl
            have c4 := hB1.at' 4 _ rfl
            clear hB hB1 hbA hb1
            go_wp2_with fail
            refine (isExtent_any true x.radius _ E1.out).mono ?_
            rintro e w1 ⟨rfl, rfl⟩
            go_wp2_with fail
            refine (isExtent_any true x.depth _ E2.out).mono ?_
            rintro e w1 ⟨rfl, rfl⟩
            go_wp2_with fail
            refine (isThick_any true x.thick _ E3.out).mono ?_
            rintro e w1 ⟨rfl, rfl⟩
            go_wp2_with fail
            refine (isMinute_any true x.since _ E4.out).mono ?_
            rintro e w1 ⟨rfl, rfl⟩
            go_wp2
            go_ret
            exact ⟨by rw [HV.out]; rfl, hb2⟩
          · skip
            have HV := Lib.hid (show b = false from by
              cases hb : b
              · rfl
              · exact absurd (h.1 hb).2.2.2.2 n4)
            have E0 := Lib.hid (show true = decide (NameOk x.bell) from (decide_eq_true n0).symm)
            have E1 := Lib.hid (show true = decide (1 ≤ x.radius ∧ x.radius ≤ 300000) from (decide_eq_true n1).symm)
            have E2 := Lib.hid (show true = decide (1 ≤ x.depth ∧ x.depth ≤ 300000) from (decide_eq_true n2).symm)
            have E3 := Lib.hid (show true = decide (1 ≤ x.thick ∧ x.thick ≤ 30000) from (decide_eq_true n3).symm)
            have E4 := Lib.hid (show false = decide (0 ≤ x.since ∧ x.since ≤ 1000000) from (decide_eq_false n4).symm)
            clear h n0 n1 n2 n3 n4
            go_enter Try.func46, Try.ntmps46
            go_wp2_with fail
            obtain ⟨wA, hA⟩ : ∃ wA, wA = w.alloc (Obj.cells #[.string x.bell, .int .i64 x.radius, .int .i64 x.depth, .int .i64 x.thick, .int .i64 x.since] 41) := ⟨_, rfl⟩
            rw [← hA]
            have hB : Box wA w.heap.size [.string x.bell, .int .i64 x.radius, .int .i64 x.depth, .int .i64 x.thick, .int .i64 x.since] := by rw [hA]; exact Box.alloc w _ _ _ rfl
            have hbA : Below w.heap.size w wA := by rw [hA]; (repeat (first | with_reducible exact Below.refl _ _ | with_reducible exact hbw | (with_reducible refine Below.setCell ?_ ?_ _; rotate_left; · first | exact Nat.le_refl _ | omega | (simp; done) | (simp; omega)) | (with_reducible refine Below.alloc ?_ ?_ _; rotate_left; · first | exact Nat.le_refl _ | omega | (simp; done) | (simp; omega)) | with_reducible refine below_drewN ?_ _ | with_reducible refine Below.drew ?_))
            clear hA
            refine (isNameB_any true _ _ E0.out hs).mono ?_
            rintro e w1 ⟨rfl, hb1⟩
            have hB1 := hB.mono hb1
            have hb2 := hbA.trans (hb1.mono hbA.size)
            have c1 := hB1.at' 1 _ rfl
            have c2 := hB1.at' 2 _ rfl
            have c3 := hB1.at' 3 _ rfl
            have c4 := hB1.at' 4 _ rfl
            clear hB hB1 hbA hb1
            go_wp2_with fail
            refine (isExtent_any true x.radius _ E1.out).mono ?_
            rintro e w1 ⟨rfl, rfl⟩
            go_wp2_with fail
            refine (isExtent_any true x.depth _ E2.out).mono ?_
            rintro e w1 ⟨rfl, rfl⟩
            go_wp2_with fail
            refine (isThick_any true x.thick _ E3.out).mono ?_
            rintro e w1 ⟨rfl, rfl⟩
            go_wp2_with fail
            refine (isMinute_any false x.since _ E4.out).mono ?_
            rintro e w1 ⟨rfl, rfl⟩
            go_wp2
            go_ret
            exact ⟨by rw [HV.out]; rfl, hb2⟩
        · skip
          have HV := Lib.hid (show b = false from by
            cases hb : b
            · rfl
            · exact absurd (h.1 hb).2.2.2.1 n3)
          have E0 := Lib.hid (show true = decide (NameOk x.bell) from (decide_eq_true n0).symm)
          have E1 := Lib.hid (show true = decide (1 ≤ x.radius ∧ x.radius ≤ 300000) from (decide_eq_true n1).symm)
          have E2 := Lib.hid (show true = decide (1 ≤ x.depth ∧ x.depth ≤ 300000) from (decide_eq_true n2).symm)
          have E3 := Lib.hid (show false = decide (1 ≤ x.thick ∧ x.thick ≤ 30000) from (decide_eq_false n3).symm)
          clear h n0 n1 n2 n3
          go_enter Try.func46, Try.ntmps46
          go_wp2_with fail
          obtain ⟨wA, hA⟩ : ∃ wA, wA = w.alloc (Obj.cells #[.string x.bell, .int .i64 x.radius, .int .i64 x.depth, .int .i64 x.thick, .int .i64 x.since] 41) := ⟨_, rfl⟩
          rw [← hA]
          have hB : Box wA w.heap.size [.string x.bell, .int .i64 x.radius, .int .i64 x.depth, .int .i64 x.thick, .int .i64 x.since] := by rw [hA]; exact Box.alloc w _ _ _ rfl
          have hbA : Below w.heap.size w wA := by rw [hA]; (repeat (first | with_reducible exact Below.refl _ _ | with_reducible exact hbw | (with_reducible refine Below.setCell ?_ ?_ _; rotate_left; · first | exact Nat.le_refl _ | omega | (simp; done) | (simp; omega)) | (with_reducible refine Below.alloc ?_ ?_ _; rotate_left; · first | exact Nat.le_refl _ | omega | (simp; done) | (simp; omega)) | with_reducible refine below_drewN ?_ _ | with_reducible refine Below.drew ?_))
          clear hA
          refine (isNameB_any true _ _ E0.out hs).mono ?_
          rintro e w1 ⟨rfl, hb1⟩
          have hB1 := hB.mono hb1
          have hb2 := hbA.trans (hb1.mono hbA.size)
          have c1 := hB1.at' 1 _ rfl
          have c2 := hB1.at' 2 _ rfl
          have c3 := hB1.at' 3 _ rfl
          have c4 := hB1.at' 4 _ rfl
          clear hB hB1 hbA hb1
          go_wp2_with fail
          refine (isExtent_any true x.radius _ E1.out).mono ?_
          rintro e w1 ⟨rfl, rfl⟩
          go_wp2_with fail
          refine (isExtent_any true x.depth _ E2.out).mono ?_
          rintro e w1 ⟨rfl, rfl⟩
          go_wp2_with fail
          refine (isThick_any false x.thick _ E3.out).mono ?_
          rintro e w1 ⟨rfl, rfl⟩
          go_wp2
          go_ret
          exact ⟨by rw [HV.out]; rfl, hb2⟩
      · skip
        have HV := Lib.hid (show b = false from by
          cases hb : b
          · rfl
          · exact absurd (h.1 hb).2.2.1 n2)
        have E0 := Lib.hid (show true = decide (NameOk x.bell) from (decide_eq_true n0).symm)
        have E1 := Lib.hid (show true = decide (1 ≤ x.radius ∧ x.radius ≤ 300000) from (decide_eq_true n1).symm)
        have E2 := Lib.hid (show false = decide (1 ≤ x.depth ∧ x.depth ≤ 300000) from (decide_eq_false n2).symm)
        clear h n0 n1 n2
        go_enter Try.func46, Try.ntmps46
        go_wp2_with fail
        obtain ⟨wA, hA⟩ : ∃ wA, wA = w.alloc (Obj.cells #[.string x.bell, .int .i64 x.radius, .int .i64 x.depth, .int .i64 x.thick, .int .i64 x.since] 41) := ⟨_, rfl⟩
        rw [← hA]
        have hB : Box wA w.heap.size [.string x.bell, .int .i64 x.radius, .int .i64 x.depth, .int .i64 x.thick, .int .i64 x.since] := by rw [hA]; exact Box.alloc w _ _ _ rfl
        have hbA : Below w.heap.size w wA := by rw [hA]; (repeat (first | with_reducible exact Below.refl _ _ | with_reducible exact hbw | (with_reducible refine Below.setCell ?_ ?_ _; rotate_left; · first | exact Nat.le_refl _ | omega | (simp; done) | (simp; omega)) | (with_reducible refine Below.alloc ?_ ?_ _; rotate_left; · first | exact Nat.le_refl _ | omega | (simp; done) | (simp; omega)) | with_reducible refine below_drewN ?_ _ | with_reducible refine Below.drew ?_))
        clear hA
        refine (isNameB_any true _ _ E0.out hs).mono ?_
        rintro e w1 ⟨rfl, hb1⟩
        have hB1 := hB.mono hb1
        have hb2 := hbA.trans (hb1.mono hbA.size)
        have c1 := hB1.at' 1 _ rfl
        have c2 := hB1.at' 2 _ rfl
        have c3 := hB1.at' 3 _ rfl
        have c4 := hB1.at' 4 _ rfl
        clear hB hB1 hbA hb1
        go_wp2_with fail
        refine (isExtent_any true x.radius _ E1.out).mono ?_
        rintro e w1 ⟨rfl, rfl⟩
        go_wp2_with fail
        refine (isExtent_any false x.depth _ E2.out).mono ?_
        rintro e w1 ⟨rfl, rfl⟩
        go_wp2
        go_ret
        exact ⟨by rw [HV.out]; rfl, hb2⟩
    · skip
      have HV := Lib.hid (show b = false from by
        cases hb : b
        · rfl
        · exact absurd (h.1 hb).2.1 n1)
      have E0 := Lib.hid (show true = decide (NameOk x.bell) from (decide_eq_true n0).symm)
      have E1 := Lib.hid (show false = decide (1 ≤ x.radius ∧ x.radius ≤ 300000) from (decide_eq_false n1).symm)
      clear h n0 n1
      go_enter Try.func46, Try.ntmps46
      go_wp2_with fail
      obtain ⟨wA, hA⟩ : ∃ wA, wA = w.alloc (Obj.cells #[.string x.bell, .int .i64 x.radius, .int .i64 x.depth, .int .i64 x.thick, .int .i64 x.since] 41) := ⟨_, rfl⟩
      rw [← hA]
      have hB : Box wA w.heap.size [.string x.bell, .int .i64 x.radius, .int .i64 x.depth, .int .i64 x.thick, .int .i64 x.since] := by rw [hA]; exact Box.alloc w _ _ _ rfl
      have hbA : Below w.heap.size w wA := by rw [hA]; (repeat (first | with_reducible exact Below.refl _ _ | with_reducible exact hbw | (with_reducible refine Below.setCell ?_ ?_ _; rotate_left; · first | exact Nat.le_refl _ | omega | (simp; done) | (simp; omega)) | (with_reducible refine Below.alloc ?_ ?_ _; rotate_left; · first | exact Nat.le_refl _ | omega | (simp; done) | (simp; omega)) | with_reducible refine below_drewN ?_ _ | with_reducible refine Below.drew ?_))
      clear hA
      refine (isNameB_any true _ _ E0.out hs).mono ?_
      rintro e w1 ⟨rfl, hb1⟩
      have hB1 := hB.mono hb1
      have hb2 := hbA.trans (hb1.mono hbA.size)
      have c1 := hB1.at' 1 _ rfl
      have c2 := hB1.at' 2 _ rfl
      have c3 := hB1.at' 3 _ rfl
      have c4 := hB1.at' 4 _ rfl
      clear hB hB1 hbA hb1
      go_wp2_with fail
      refine (isExtent_any false x.radius _ E1.out).mono ?_
      rintro e w1 ⟨rfl, rfl⟩
      go_wp2
      go_ret
      exact ⟨by rw [HV.out]; rfl, hb2⟩
  · skip
    have HV := Lib.hid (show b = false from by
      cases hb : b
      · rfl
      · exact absurd (h.1 hb).1 n0)
    have E0 := Lib.hid (show false = decide (NameOk x.bell) from (decide_eq_false n0).symm)
    clear h n0
    go_enter Try.func46, Try.ntmps46
    go_wp2_with fail
    obtain ⟨wA, hA⟩ : ∃ wA, wA = w.alloc (Obj.cells #[.string x.bell, .int .i64 x.radius, .int .i64 x.depth, .int .i64 x.thick, .int .i64 x.since] 41) := ⟨_, rfl⟩
    rw [← hA]
    have hB : Box wA w.heap.size [.string x.bell, .int .i64 x.radius, .int .i64 x.depth, .int .i64 x.thick, .int .i64 x.since] := by rw [hA]; exact Box.alloc w _ _ _ rfl
    have hbA : Below w.heap.size w wA := by rw [hA]; (repeat (first | with_reducible exact Below.refl _ _ | with_reducible exact hbw | (with_reducible refine Below.setCell ?_ ?_ _; rotate_left; · first | exact Nat.le_refl _ | omega | (simp; done) | (simp; omega)) | (with_reducible refine Below.alloc ?_ ?_ _; rotate_left; · first | exact Nat.le_refl _ | omega | (simp; done) | (simp; omega)) | with_reducible refine below_drewN ?_ _ | with_reducible refine Below.drew ?_))
    clear hA
    refine (isNameB_any false _ _ E0.out hs).mono ?_
    rintro e w1 ⟨rfl, hb1⟩
    have hB1 := hB.mono hb1
    have hb2 := hbA.trans (hb1.mono hbA.size)
    have c1 := hB1.at' 1 _ rfl
    have c2 := hB1.at' 2 _ rfl
    have c3 := hB1.at' 3 _ rfl
    have c4 := hB1.at' 4 _ rfl
    clear hB hB1 hbA hb1
    go_wp2
    go_ret
    exact ⟨by rw [HV.out]; rfl, hb2⟩

set_option maxHeartbeats 1000000 in
theorem l16One_any (b : Bool) (x : CasD) (g off : Nat) (w : World) (h : b = true ↔ casOk x) (hs : x.bell.size ≤ maxLen) (hx : CasDIn w g off x) :
    Calls Try.prog 83 #[.pointer (some ⟨g, off, none⟩)] w fun e w' => e = .returned (.bool b) ∧ w' = w := by
  obtain ⟨l0, c0, c1, c2, c3, c4⟩ := hx
  by_cases n0 : NameOk x.bell
  · skip
    by_cases n1 : 1 ≤ x.radius ∧ x.radius ≤ 300000
    · skip
      by_cases n2 : 1 ≤ x.depth ∧ x.depth ≤ 300000
      · skip
        by_cases n3 : 1 ≤ x.thick ∧ x.thick ≤ 30000
        · skip
          by_cases n4 : 0 ≤ x.since ∧ x.since ≤ 1000000
          · skip
            have HV := Lib.hid (show b = true from h.2 ⟨n0, n1, n2, n3, n4⟩)
            have E0 := Lib.hid (show true = decide (NameOk x.bell) from (decide_eq_true n0).symm)
            have E1 := Lib.hid (show true = decide (1 ≤ x.radius ∧ x.radius ≤ 300000) from (decide_eq_true n1).symm)
            have E2 := Lib.hid (show true = decide (1 ≤ x.depth ∧ x.depth ≤ 300000) from (decide_eq_true n2).symm)
            have E3 := Lib.hid (show true = decide (1 ≤ x.thick ∧ x.thick ≤ 30000) from (decide_eq_true n3).symm)
            have E4 := Lib.hid (show true = decide (0 ≤ x.since ∧ x.since ≤ 1000000) from (decide_eq_true n4).symm)
            clear h n0 n1 n2 n3 n4
            go_enter Try.func83, Try.ntmps83
            go_wp2_with fail
            refine (l01NameB_any true _ _ E0.out hs).mono ?_
            rintro e w1 ⟨rfl, rfl⟩
            go_wp2_with fail
            refine (l16Size_any true x.radius _ E1.out).mono ?_
            rintro e w1 ⟨rfl, rfl⟩
            go_wp2_with fail
            refine (l16Size_any true x.depth _ E2.out).mono ?_
            rintro e w1 ⟨rfl, rfl⟩
            go_wp2_with fail
            refine (l16Thick_any true x.thick _ E3.out).mono ?_
            rintro e w1 ⟨rfl, rfl⟩
            go_wp2_with fail
            refine (l00In_any true x.since _ _ _ E4.out).mono ?_
            rintro e w1 ⟨rfl, rfl⟩
            go_wp2
            go_ret
            exact ⟨by rw [HV.out]; rfl, rfl⟩
          · skip
            have HV := Lib.hid (show b = false from by
              cases hb : b
              · rfl
              · exact absurd (h.1 hb).2.2.2.2 n4)
            have E0 := Lib.hid (show true = decide (NameOk x.bell) from (decide_eq_true n0).symm)
            have E1 := Lib.hid (show true = decide (1 ≤ x.radius ∧ x.radius ≤ 300000) from (decide_eq_true n1).symm)
            have E2 := Lib.hid (show true = decide (1 ≤ x.depth ∧ x.depth ≤ 300000) from (decide_eq_true n2).symm)
            have E3 := Lib.hid (show true = decide (1 ≤ x.thick ∧ x.thick ≤ 30000) from (decide_eq_true n3).symm)
            have E4 := Lib.hid (show false = decide (0 ≤ x.since ∧ x.since ≤ 1000000) from (decide_eq_false n4).symm)
            clear h n0 n1 n2 n3 n4
            go_enter Try.func83, Try.ntmps83
            go_wp2_with fail
            refine (l01NameB_any true _ _ E0.out hs).mono ?_
            rintro e w1 ⟨rfl, rfl⟩
            go_wp2_with fail
            refine (l16Size_any true x.radius _ E1.out).mono ?_
            rintro e w1 ⟨rfl, rfl⟩
            go_wp2_with fail
            refine (l16Size_any true x.depth _ E2.out).mono ?_
            rintro e w1 ⟨rfl, rfl⟩
            go_wp2_with fail
            refine (l16Thick_any true x.thick _ E3.out).mono ?_
            rintro e w1 ⟨rfl, rfl⟩
            go_wp2_with fail
            refine (l00In_any false x.since _ _ _ E4.out).mono ?_
            rintro e w1 ⟨rfl, rfl⟩
            go_wp2
            go_ret
            exact ⟨by rw [HV.out]; rfl, rfl⟩
        · skip
          have HV := Lib.hid (show b = false from by
            cases hb : b
            · rfl
            · exact absurd (h.1 hb).2.2.2.1 n3)
          have E0 := Lib.hid (show true = decide (NameOk x.bell) from (decide_eq_true n0).symm)
          have E1 := Lib.hid (show true = decide (1 ≤ x.radius ∧ x.radius ≤ 300000) from (decide_eq_true n1).symm)
          have E2 := Lib.hid (show true = decide (1 ≤ x.depth ∧ x.depth ≤ 300000) from (decide_eq_true n2).symm)
          have E3 := Lib.hid (show false = decide (1 ≤ x.thick ∧ x.thick ≤ 30000) from (decide_eq_false n3).symm)
          clear h n0 n1 n2 n3
          go_enter Try.func83, Try.ntmps83
          go_wp2_with fail
          refine (l01NameB_any true _ _ E0.out hs).mono ?_
          rintro e w1 ⟨rfl, rfl⟩
          go_wp2_with fail
          refine (l16Size_any true x.radius _ E1.out).mono ?_
          rintro e w1 ⟨rfl, rfl⟩
          go_wp2_with fail
          refine (l16Size_any true x.depth _ E2.out).mono ?_
          rintro e w1 ⟨rfl, rfl⟩
          go_wp2_with fail
          refine (l16Thick_any false x.thick _ E3.out).mono ?_
          rintro e w1 ⟨rfl, rfl⟩
          go_wp2
          go_ret
          exact ⟨by rw [HV.out]; rfl, rfl⟩
      · skip
        have HV := Lib.hid (show b = false from by
          cases hb : b
          · rfl
          · exact absurd (h.1 hb).2.2.1 n2)
        have E0 := Lib.hid (show true = decide (NameOk x.bell) from (decide_eq_true n0).symm)
        have E1 := Lib.hid (show true = decide (1 ≤ x.radius ∧ x.radius ≤ 300000) from (decide_eq_true n1).symm)
        have E2 := Lib.hid (show false = decide (1 ≤ x.depth ∧ x.depth ≤ 300000) from (decide_eq_false n2).symm)
        clear h n0 n1 n2
        go_enter Try.func83, Try.ntmps83
        go_wp2_with fail
        refine (l01NameB_any true _ _ E0.out hs).mono ?_
        rintro e w1 ⟨rfl, rfl⟩
        go_wp2_with fail
        refine (l16Size_any true x.radius _ E1.out).mono ?_
        rintro e w1 ⟨rfl, rfl⟩
        go_wp2_with fail
        refine (l16Size_any false x.depth _ E2.out).mono ?_
        rintro e w1 ⟨rfl, rfl⟩
        go_wp2
        go_ret
        exact ⟨by rw [HV.out]; rfl, rfl⟩
    · skip
      have HV := Lib.hid (show b = false from by
        cases hb : b
        · rfl
        · exact absurd (h.1 hb).2.1 n1)
      have E0 := Lib.hid (show true = decide (NameOk x.bell) from (decide_eq_true n0).symm)
      have E1 := Lib.hid (show false = decide (1 ≤ x.radius ∧ x.radius ≤ 300000) from (decide_eq_false n1).symm)
      clear h n0 n1
      go_enter Try.func83, Try.ntmps83
      go_wp2_with fail
      refine (l01NameB_any true _ _ E0.out hs).mono ?_
      rintro e w1 ⟨rfl, rfl⟩
      go_wp2_with fail
      refine (l16Size_any false x.radius _ E1.out).mono ?_
      rintro e w1 ⟨rfl, rfl⟩
      go_wp2
      go_ret
      exact ⟨by rw [HV.out]; rfl, rfl⟩
  · skip
    have HV := Lib.hid (show b = false from by
      cases hb : b
      · rfl
      · exact absurd (h.1 hb).1 n0)
    have E0 := Lib.hid (show false = decide (NameOk x.bell) from (decide_eq_false n0).symm)
    clear h n0
    go_enter Try.func83, Try.ntmps83
    go_wp2_with fail
    refine (l01NameB_any false _ _ E0.out hs).mono ?_
    rintro e w1 ⟨rfl, rfl⟩
    go_wp2
    go_ret
    exact ⟨by rw [HV.out]; rfl, rfl⟩

end Go.Proofs.Yteaijhmgfddjiaa
