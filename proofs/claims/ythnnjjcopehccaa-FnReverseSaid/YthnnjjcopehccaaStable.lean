/- Contracts of stableCmpFunc and SortStableFunc at tones. -/
import Derived.Test.YthnnjjcopehccaaStabL
set_option linter.unusedSimpArgs false
set_option linter.unnecessarySimpa false
set_option linter.unusedVariables false
set_option maxRecDepth 100000
namespace Go.Proofs.Ythnnjjcopehccaa
open Go.RowKit

set_option maxHeartbeats 4000000 in
theorem stable_any (base g n cap : Nat) (d : List Ton) (w : World) (h : TR w base g n cap d) (hn : n ≤ 1000000) :
    Calls Try.prog 28 #[.slice (some ⟨g, 0, none⟩) n cap, .int .i64 n, .func (.func 18) #[] #[]] w fun e w' => e = .returned (.tuple #[]) ∧ (∃ S', S'.Perm d ∧ Srt S' ∧ TR w' base g n cap S') ∧ w.grownBy w' (some g) := by
  have hln := h.len
  have HN := Lib.hid hln; clear hln
  go_enter Try.func28, Try.ntmps28
  go_wp2_with fail
  go_loopw [7, 8] (fun i j wr => ∃ (P Q : List Ton) (a : Nat), i = .int .i64 (a : Int) ∧ j = .int .i64 ((a : Int) + 20) ∧ P.length = a ∧ a + Q.length = n ∧ Full 20 P ∧ (P ++ Q).Perm d ∧ TR wr base g n cap (P ++ Q) ∧ w.grownBy wr (some g)) (fun i j _ => n + 20 - (intOf i).toNat)
  case atStart => exact ⟨[], d, 0, by go_num, by go_num, rfl, by rw [HN.out]; omega, full_nil _, List.Perm.refl _, h, World.grownBy.refl _ _⟩
  case round =>
    obtain ⟨P, Q, a, rfl, rfl, hP, hQ, hF, hp, hT, hg⟩ := hrel
    by_cases hlt : a + 20 ≤ n
    · have d0 : decide ((a : Int) + 20 ≤ (n : Int)) = true := by simp; omega
      have k1 : (Q.take 20).length = 20 := by rw [List.length_take]; omega
      have k2 : (Q.drop 20).length = Q.length - 20 := by rw [List.length_drop]
      have HP := Lib.hid hP; have HQ := Lib.hid hQ; have HF := Lib.hid hF; have HPm := Lib.hid hp; have HT := Lib.hid hT; have K1 := Lib.hid k1; have K2 := Lib.hid k2
      clear hP hQ hF hp hT k1 k2
      have EA := Lib.hid (show (a : Int) + 20 = ((a + 20 : Nat) : Int) by omega)
      go_wp2_with fail
      simp only [EA.out]
      refine (insS_any base g n cap a (a + 20) P (Q.take 20) (Q.drop 20) _ (by rw [List.take_append_drop]; exact HT.out) hn HP.out (by rw [HP.out, K1.out])).mono ?_
      rintro e w1 ⟨rfl, ⟨S', p1, s1, hT1⟩, hg1⟩
      have P1 := Lib.hid p1; have S1 := Lib.hid s1; have HT1 := Lib.hid hT1; have HG1 := Lib.hid hg1
      clear p1 s1 hT1 hg1
      go_wp2
      go_roundw
      case rel =>
        have e1 : S'.length = 20 := by rw [P1.out.length_eq, K1.out]
        refine ⟨P ++ S', Q.drop 20, a + 20, by go_num, by go_num, by rw [List.length_append, HP.out, e1], by have := K2.out; have := HQ.out; omega, HF.out.snoc S1.out e1, ?_, by have := HT1.out; rw [← List.append_assoc] at this; exact this, grown_trans hg HG1.out⟩
        refine List.Perm.trans ?_ HPm.out
        rw [List.append_assoc]
        refine List.Perm.append_left P ?_
        have := P1.out.append_right (Q.drop 20)
        rwa [List.take_append_drop] at this
      case measure => simp [intOf] <;> omega
    · have d0 : decide ((a : Int) + 20 ≤ (n : Int)) = false := by simp; omega
      have HP := Lib.hid hP; have HQ := Lib.hid hQ; have HF := Lib.hid hF; have HPm := Lib.hid hp; have HT := Lib.hid hT
      have hQ2 : Q.length ≤ 20 := by omega
      have HQ2 := Lib.hid hQ2
      clear hP hQ hF hp hT hQ2
      go_wp2_with fail
      refine (insS_any base g n cap a n P Q [] _ (by rw [List.append_nil]; exact HT.out) hn HP.out (by rw [HP.out]; exact HQ.out)).mono ?_
      rintro e w1 ⟨rfl, ⟨S', p1, s1, hT1⟩, hg1⟩
      have hB : Blk 20 (P ++ S') := HF.out _ (.last _ s1 (by rw [p1.length_eq]; exact HQ2.out))
      have hPm : (P ++ S').Perm d := (List.Perm.append_left P p1).trans HPm.out
      have hT2 : TR w1 base g n cap (P ++ S') := by rw [List.append_nil] at hT1; exact hT1
      have hG2 := grown_trans hg hg1
      have HB := Lib.hid hB; have HPm2 := Lib.hid hPm; have HT2 := Lib.hid hT2; have HG2 := Lib.hid hG2
      clear p1 s1 hT1 hg1 hB hPm hT2 hG2 hg
      obtain ⟨d1, hd1⟩ : ∃ d1, d1 = P ++ S' := ⟨_, rfl⟩
      rw [← hd1] at HB HPm2 HT2
      clear hd1
      go_wp2_with fail
      go_loopw [6] (fun bv wr => ∃ (bs : Nat) (d1 : List Ton), bv = .int .i64 (bs : Int) ∧ 0 < bs ∧ bs ≤ 2 * n + 20 ∧ Blk bs d1 ∧ d1.Perm d ∧ TR wr base g n cap d1 ∧ w.grownBy wr (some g)) (fun bv _ => n - (intOf bv).toNat)
      case atStart => exact ⟨20, d1, by go_num, by omega, by omega, HB.out, HPm2.out, HT2.out, HG2.out⟩
      case round =>
        clear HB HPm2 HT2 HG2 HP HQ HF HPm HT HQ2
        obtain ⟨bs, d2, rfl, hbs, hbs2, hB, hPm, hT, hg⟩ := hrel
        have HB := Lib.hid hB; have HPm := Lib.hid hPm; have HT := Lib.hid hT
        clear hB hPm hT
        by_cases hlb : bs < n
        · have d5 : decide ((bs : Int) < (n : Int)) = true := by simp; omega
          have hbz : ¬ (bs : Int) = 0 := by omega
          obtain ⟨wo, rfl⟩ : ∃ wo : World, wo = wr := ⟨_, rfl⟩
          have hgo : wo.grownBy wo (some g) := World.grownBy.refl _ _
          go_wp2_with fail
          go_loopw [7, 8] (fun i j wr => ∃ (P Q : List Ton) (a : Nat), i = .int .i64 (a : Int) ∧ j = .int .i64 ((a : Int) + 2 * (bs : Int)) ∧ P.length = a ∧ a + Q.length = n ∧ Full (2 * bs) P ∧ Blk bs Q ∧ (P ++ Q).Perm d ∧ TR wr base g n cap (P ++ Q) ∧ w.grownBy wr (some g)) (fun i j _ => n + 2 * bs - (intOf i).toNat)
          case atStart => exact ⟨[], d2, 0, by go_num, by go_num, rfl, by have := HT.out.len; omega, full_nil _, HB.out, HPm.out, HT.out, hg⟩
          case round =>
            obtain ⟨P, Q, a, rfl, rfl, hP, hQ, hF, hQB, hp, hT', hg'⟩ := hrel
            by_cases hlt2 : a + 2 * bs ≤ n
            · have d6 : decide ((a : Int) + 2 * (bs : Int) ≤ (n : Int)) = true := by simp; omega
              obtain ⟨L, R, Q2, rfl, lL, lR, sL, sR, bQ⟩ := hQB.two hbs (by omega)
              have EA := Lib.hid (show (a : Int) + (bs : Int) = ((a + bs : Nat) : Int) by omega)
              have EB := Lib.hid (show (a : Int) + 2 * (bs : Int) = ((a + 2 * bs : Nat) : Int) by omega)
              have HP := Lib.hid hP; have HQ := Lib.hid hQ; have HF := Lib.hid hF; have HPm' := Lib.hid hp; have HT' := Lib.hid hT'; have LL := Lib.hid lL; have LR := Lib.hid lR; have SL := Lib.hid sL; have SR := Lib.hid sR; have BQ := Lib.hid bQ
              clear hP hQ hF hp hT' lL lR sL sR bQ hQB
              go_wp2_with fail
              simp only [EA.out, EB.out]
              have cl := symM_any base g n cap hn _ a (a + bs) (a + 2 * bs) P L R Q2 _ HT'.out HP.out (by rw [LL.out]) (by rw [LR.out]; omega) (by rw [LL.out]; omega) (by rw [LR.out]; omega) (Nat.lt_succ_self _) SL.out SR.out
              unfold SymTo at cl
              refine cl.mono ?_
              rintro e w1 ⟨rfl, ⟨S', p1, s1, hT1⟩, hg1⟩
              have P1 := Lib.hid p1; have S1 := Lib.hid s1; have HT1 := Lib.hid hT1; have HG1 := Lib.hid hg1
              clear p1 s1 hT1 hg1 cl
              go_wp2
              go_roundw
              case rel =>
                have e1 : S'.length = 2 * bs := by rw [P1.out.length_eq, List.length_append, LL.out, LR.out]; omega
                refine ⟨P ++ S', Q2, a + 2 * bs, by go_num, by go_num, by rw [List.length_append, HP.out, e1], ?_, HF.out.snoc S1.out e1, BQ.out, ?_, by have := HT1.out; rw [← List.append_assoc] at this; exact this, grown_trans hg' HG1.out⟩
                · have := HQ.out; rw [List.length_append, List.length_append, LL.out, LR.out] at this; omega
                · refine List.Perm.trans ?_ HPm'.out
                  rw [List.append_assoc]
                  refine List.Perm.append_left P ?_
                  have := P1.out.append_right Q2
                  rwa [List.append_assoc] at this
              case measure => simp [intOf] <;> omega
            · have d6 : decide ((a : Int) + 2 * (bs : Int) ≤ (n : Int)) = false := by simp; omega
              have hQ2 : Q.length < 2 * bs := by omega
              by_cases hmn : a + bs < n
              · have d7 : decide ((a : Int) + (bs : Int) < (n : Int)) = true := by simp; omega
                obtain ⟨L, R, rfl, lL, lR, sL, sR⟩ := hQB.tail hbs hQ2 (by omega)
                have EA := Lib.hid (show (a : Int) + (bs : Int) = ((a + bs : Nat) : Int) by omega)
                have HP := Lib.hid hP; have HQ := Lib.hid hQ; have HF := Lib.hid hF; have HPm' := Lib.hid hp; have HT' := Lib.hid hT'; have LL := Lib.hid lL; have LR := Lib.hid lR; have SL := Lib.hid sL; have SR := Lib.hid sR; have HQ2 := Lib.hid hQ2
                clear hP hQ hF hp hT' lL lR sL sR hQB hQ2
                go_wp2_with fail
                simp only [EA.out]
                have cl := symM_any base g n cap hn _ a (a + bs) n P L R [] _ (by rw [List.append_nil]; exact HT'.out) HP.out (by rw [LL.out]) (by have := HQ.out; rw [List.length_append, LL.out] at this; omega) (by rw [LL.out]; omega) LR.out (Nat.lt_succ_self _) SL.out SR.out
                unfold SymTo at cl
                refine cl.mono ?_
                rintro e w1 ⟨rfl, ⟨S', p1, s1, hT1⟩, hg1⟩
                have P1 := Lib.hid p1; have S1 := Lib.hid s1; have HT1 := Lib.hid hT1; have HG1 := Lib.hid hg1
                clear p1 s1 hT1 hg1 cl
                go_wp2
                go_roundw
                case rel =>
                  exact ⟨2 * bs, P ++ S', by go_num, by omega, by omega, HF.out _ (.last _ S1.out (by rw [P1.out.length_eq]; have := HQ2.out; omega)), (List.Perm.append_left P P1.out).trans HPm'.out, by have := HT1.out; rw [List.append_nil] at this; exact this, grown_trans hg' HG1.out⟩
                case measure => simp [intOf] <;> omega
              · have d7 : decide ((a : Int) + (bs : Int) < (n : Int)) = false := by simp; omega
                have hS : Srt Q := hQB.all (by omega)
                have hB2 : Blk (2 * bs) (P ++ Q) := hF _ (.last _ hS (by omega))
                have HB2 := Lib.hid hB2; have HPm' := Lib.hid hp; have HT' := Lib.hid hT'
                have hAn : a ≤ n := by omega
                clear hS hB2 hp hT' hP hQ hF hQB hQ2
                go_wp2
                go_roundw
                case rel =>
                  exact ⟨2 * bs, P ++ Q, by go_num, by omega, by omega, HB2.out, HPm'.out, HT'.out, hg'⟩
                case measure => simp [intOf] <;> omega
        · have d5 : decide ((bs : Int) < (n : Int)) = false := by simp; omega
          go_wp2
          go_end0
          exact ⟨rfl, ⟨d2, HPm.out, HB.out.all (by have := HT.out.len; omega), HT.out⟩, hg⟩

end Go.Proofs.Ythnnjjcopehccaa
