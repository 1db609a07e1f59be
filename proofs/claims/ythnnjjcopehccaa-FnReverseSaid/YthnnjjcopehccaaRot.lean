/- Contract of rotateCmpFunc at tones. -/
import Derived.Test.YthnnjjcopehccaaSwapR
set_option linter.unusedSimpArgs false
set_option linter.unnecessarySimpa false
set_option linter.unusedVariables false
set_option maxRecDepth 100000
namespace Go.Proofs.Ythnnjjcopehccaa
open Go.RowKit

theorem cut2' (X P Q R : List Ton) (k : Nat) : P ++ (R ++ (X.take k ++ (X.drop k ++ Q))) = P ++ (R ++ (X ++ Q)) := by rw [← List.append_assoc (X.take k), List.take_append_drop]
theorem cut2 (X P Q : List Ton) (k : Nat) : P ++ (X.take k ++ (X.drop k ++ Q)) = P ++ (X ++ Q) := by rw [← List.append_assoc (X.take k), List.take_append_drop]

set_option maxHeartbeats 2000000 in
theorem rotate_any (base g n cap a m b : Nat) (f : Value) (A L R C : List Ton) (w : World) (h : TR w base g n cap (A ++ (L ++ (R ++ C)))) (hn : n ≤ 1000000) (ha : A.length = a) (hm : A.length + L.length = m) (hb : A.length + (L.length + R.length) = b) (hL : 0 < L.length) (hR : 0 < R.length) :
    Calls Try.prog 31 #[.slice (some ⟨g, 0, none⟩) n cap, .int .i64 a, .int .i64 m, .int .i64 b, f] w fun e w' => e = .returned (.tuple #[]) ∧ TR w' base g n cap (A ++ (R ++ (L ++ C))) ∧ w.grownBy w' (some g) := by
  have hln := h.len
  simp only [List.length_append] at hln
  have q1 : a < m := by omega
  have q2 : m < b := by omega
  have q3 : b ≤ n := by omega
  have HM := Lib.hid hm; have HB := Lib.hid hb; have HA := Lib.hid ha
  clear hln hm hb ha hL hR
  go_enter Try.func31, Try.ntmps31
  go_wp2_with fail
  go_loopw [10, 11] (fun i j wr => ∃ (A' L' R' C' : List Ton), i = .int .i64 L'.length ∧ j = .int .i64 R'.length ∧ 0 < L'.length ∧ 0 < R'.length ∧ A'.length + L'.length = m ∧ A' ++ (R' ++ (L' ++ C')) = A ++ (R ++ (L ++ C)) ∧ TR wr base g n cap (A' ++ (L' ++ (R' ++ C'))) ∧ w.grownBy wr (some g)) (fun i j _ => (intOf i + intOf j).toNat)
  case atStart => exact ⟨A, L, R, C, by have := HM.out; have := HA.out; congr 1; omega, by have := HM.out; have := HB.out; congr 1; omega, by have := HM.out; have := HA.out; omega, by have := HM.out; have := HB.out; omega, HM.out, rfl, h, World.grownBy.refl _ _⟩
  case round =>
    obtain ⟨A', L', R', C', rfl, rfl, hL, hR, hm', he, hT, hg⟩ := hrel
    have hln := hT.len
    simp only [List.length_append] at hln
    have r1 : A'.length + L'.length + R'.length ≤ n := by omega
    have HM' := Lib.hid hm'; have HE := Lib.hid he; have HT := Lib.hid hT
    clear hln hm' he hT
    rcases Nat.lt_trichotomy L'.length R'.length with hl | hl | hl
    · have d0 : ((L'.length : Int) != (R'.length : Int)) = true := by simp; omega
      have d1 : decide ((R'.length : Int) < (L'.length : Int)) = false := by simp; omega
      have k1 : (R'.take (R'.length - L'.length)).length = R'.length - L'.length := by rw [List.length_take]; omega
      have k2 : (R'.drop (R'.length - L'.length)).length = L'.length := by rw [List.length_drop]; omega
      have K1 := Lib.hid k1; have K2 := Lib.hid k2; clear k1 k2
      have e1 := Lib.hid (show (m : Int) - (L'.length : Int) = (A'.length : Int) by have := HM'.out; omega)
      have e2 := Lib.hid (show (m : Int) + (R'.length : Int) - (L'.length : Int) = ((A'.length + (L'.length + (R'.length - L'.length)) : Nat) : Int) by have := HM'.out; omega)
      go_wp2_with fail
      rw [e1.out, e2.out]
      refine (swapRange_any base g n cap _ _ L'.length f A' L' (R'.take (R'.length - L'.length)) (R'.drop (R'.length - L'.length)) C' _ (by have := HT.out; rw [← cut2' R' A' C' L' (R'.length - L'.length)] at this; exact this) hn rfl rfl K2.out (by rw [K1.out])).mono ?_
      rintro e w1 ⟨rfl, hT1, hg1⟩
      have HT1 := Lib.hid hT1; have HG1 := Lib.hid hg1; clear hT1 hg1
      go_wp2
      go_roundw
      case rel => exact ⟨A', R'.drop (R'.length - L'.length), R'.take (R'.length - L'.length), L' ++ C', by rw [K2.out], by rw [K1.out]; congr 1; omega, by rw [K2.out]; exact hL, by rw [K1.out]; omega, by rw [K2.out]; exact HM'.out, by rw [cut2]; exact HE.out, HT1.out, grown_trans hg HG1.out⟩
      case measure => simp [intOf] <;> omega
    · have d0 : ((L'.length : Int) != (R'.length : Int)) = false := by simp; omega
      have e1 := Lib.hid (show (m : Int) - (L'.length : Int) = (A'.length : Int) by have := HM'.out; omega)
      have HL := Lib.hid hl; clear hl
      go_wp2_with fail
      rw [e1.out]
      refine (swapRange_any base g n cap _ m L'.length f A' L' [] R' C' _ HT.out hn rfl rfl HL.out.symm HM'.out).mono ?_
      rintro e w1 ⟨rfl, hT1, hg1⟩
      have HT1 := Lib.hid hT1; have HG1 := Lib.hid hg1; clear hT1 hg1
      go_wp2
      go_end0
      exact ⟨rfl, by rw [← HE.out]; exact HT1.out, grown_trans hg HG1.out⟩
    · have d0 : ((L'.length : Int) != (R'.length : Int)) = true := by simp; omega
      have d1 : decide ((R'.length : Int) < (L'.length : Int)) = true := by simp; omega
      have k1 : (L'.take R'.length).length = R'.length := by rw [List.length_take]; omega
      have k2 : (L'.drop R'.length).length = L'.length - R'.length := by rw [List.length_drop]
      have K1 := Lib.hid k1; have K2 := Lib.hid k2; clear k1 k2
      have e1 := Lib.hid (show (m : Int) - (L'.length : Int) = (A'.length : Int) by have := HM'.out; omega)
      go_wp2_with fail
      rw [e1.out]
      refine (swapRange_any base g n cap _ m R'.length f A' (L'.take R'.length) (L'.drop R'.length) R' C' _ (by have := HT.out; rw [← cut2 L' A' (R' ++ C') R'.length] at this; exact this) hn rfl K1.out rfl (by rw [K1.out, K2.out]; have := HM'.out; omega)).mono ?_
      rintro e w1 ⟨rfl, hT1, hg1⟩
      have HT1 := Lib.hid hT1; have HG1 := Lib.hid hg1; clear hT1 hg1
      go_wp2
      go_roundw
      case rel => exact ⟨A' ++ R', L'.drop R'.length, L'.take R'.length, C', by rw [K2.out]; congr 1; omega, by rw [K1.out], by rw [K2.out]; omega, by rw [K1.out]; exact hR, by rw [List.length_append, K2.out]; have := HM'.out; omega, by rw [← HE.out, List.append_assoc, cut2'], by have := HT1.out; rw [← List.append_assoc] at this; exact this, grown_trans hg HG1.out⟩
      case measure => simp [intOf] <;> omega

end Go.Proofs.Ythnnjjcopehccaa
