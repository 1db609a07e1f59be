/- The reference's draw of a row: it is right. Contracts of l27Draw and R8Row. -/
import Derived.Test.YtadnejajbdipoaaSrc
import Derived.Test.YtadnejajbdipoaaApply
set_option linter.unusedSimpArgs false
set_option linter.unnecessarySimpa false
set_option linter.unusedVariables false
set_option maxRecDepth 100000
namespace Go.Proofs.Ytadnejajbdipoaa
open Go.RowKit

theorem row_perm {xs ys : List Int} (h : RowOk xs) (p : ys.Perm xs) : RowOk ys :=
  ⟨by rw [p.length_eq]; exact h.stage, fun x hx => by rw [p.length_eq]; exact h.mem x (p.mem_iff.1 hx), p.nodup_iff.2 h.nodup⟩
theorem row_swap {A R : List Int} {x y : Int} (h : RowOk (A ++ x :: y :: R)) : RowOk (A ++ y :: x :: R) :=
  row_perm h ((List.Perm.swap x y R).append_left A)
theorem row_rounds {n : Nat} (h : stage n) : RowOk (rounds n) := by
  refine ⟨by rw [rounds_len]; exact h, fun x hx => ?_, ?_⟩
  · rw [rounds_len]
    unfold rounds at hx
    obtain ⟨i, hi, rfl⟩ := List.mem_map.1 hx
    have := List.mem_range.1 hi
    omega
  · unfold rounds List.Nodup
    rw [List.pairwise_map]
    exact List.nodup_range.imp fun h e => h (by omega)

set_option maxHeartbeats 2000000 in
theorem l27Draw_any (w0 : World) (p n : Nat) (cv : Value) (bs : List Int) (w : World) (h0 : Byts w0 cv bs) (ok : okByts bs) (h : Src w0 w p cv n) (hn : n ≤ 800000000) :
    Calls Try.prog 58 #[.pointer (some ⟨p, 0, none⟩)] w fun e w' => ∃ (v' : Value) (xs : List Int) (m : Nat), e = .returned v' ∧ RowOk xs ∧ OwnInts w.heap.size w'.heap.size w' v' xs ∧ n ≤ m ∧ m ≤ n + 100 ∧ Src w0 w' p cv m ∧ Touch p (p + 1) w w' := by
  have HS := Lib.hid h
  have hlt := h.lt
  have hlow := h.low
  clear h
  go_enter Try.func58, Try.ntmps58
  go_wp2_with fail
  refine (pick_any w0 p n cv bs 10 _ h0 ok HS.out (by omega) (by omega) (by omega)).mono ?_
  rintro e w1 ⟨rr, m1, rfl, rr0, rr1, m10, m11, hs1, ht1⟩
  obtain ⟨nn, hnn⟩ : ∃ nn : Nat, (nn : Int) = 3 + rr := ⟨(3 + rr).toNat, by omega⟩
  have wn : IntKind.i64.wrap (3 + rr) = (nn : Int) := by rw [hnn]; exact IntWalk.i64_in _ (by omega)
  have hst : stage nn := by unfold stage; omega
  have hnn3 : 3 ≤ nn ∧ nn ≤ 12 := by omega
  obtain ⟨nn3, nn12⟩ := hnn3
  have hz1 := ht1.size
  have HS1 := Lib.hid hs1; have HT1 := Lib.hid ht1; have HST := Lib.hid hst
  clear hs1 ht1 hst hnn
  go_wp2_with fail
  refine (l27Rounds_any nn _ (by omega)).mono ?_
  rintro e w2 ⟨v2, rfl, ho2, hb2⟩
  obtain ⟨g, c, rfl, hg⟩ : ∃ g c, v2 = .slice (some ⟨g, 0, none⟩) nn c ∧ w1.heap.size ≤ g := by
    rcases ho2.2 with ⟨rfl, h0⟩ | ⟨g, cap, cur, rfl, hg, _⟩
    · omega
    · exact ⟨g, cap, rfl, hg⟩
  have hz2 := hb2.size
  have HT2 := Lib.hid (HT1.out.step hb2 hz1)
  have HS2 := Lib.hid (HS1.out.mono hb2)
  have HO2 := Lib.hid ho2
  clear hb2 ho2
  go_wp2_with fail
  refine (pick_any w0 p m1 cv bs 9 _ h0 ok HS2.out (by omega) (by omega) (by omega)).mono ?_
  rintro e w3 ⟨kk, m3, rfl, kk0, kk1, m30, m31, hs3, ht3⟩
  have HT3 := Lib.hid (HT2.out.trans ht3)
  have HS3 := Lib.hid hs3
  have hpg : p + 1 ≤ g := by omega
  have HO3 := Lib.hid (owns_touch HO2.out ht3 (by omega))
  clear hs3 ht3 HO2 HT2 HS2 HS1 HT1
  go_wp2_with fail
  go_loopw [5, 6, 7] (fun k _ _ wr => ∃ (j m : Nat) (kv : Int) (xs : List Int), k = .int .i64 kv ∧ 0 ≤ kv ∧ (j : Int) + kv ≤ 8 ∧ xs.length = nn ∧ RowOk xs ∧ n ≤ m ∧ m ≤ n + 4 + 2 * j ∧ Src w0 wr p cv m ∧ wr.ownsRow w1.heap.size 2 1 (.slice (some ⟨g, 0, none⟩) nn c) nn (xs.map (Value.int .i64)) ∧ Touch p (p + 1) w wr) (fun k _ _ _ => (intOf k).toNat)
  case atStart => exact ⟨0, m3, kk, rounds nn, rfl, kk0, by omega, rounds_len nn, row_rounds HST.out, by omega, by omega, HS3.out, HO3.out, HT3.out⟩
  case round =>
    clear HS3 HO3 HT3
    obtain ⟨j, m, kv, xs, rfl, kv0, kv1, hxl, hok, hm0, hm1, hs, ho, ht⟩ := hrel
    have HX := Lib.hid hxl; have HK := Lib.hid hok; have HSr := Lib.hid hs; have HO := Lib.hid ho; have HT := Lib.hid ht
    clear hxl hok hs ho ht
    by_cases hk : 0 < kv
    · have dk : decide (0 < kv) = true := by simpa using hk
      have wk : IntKind.i64.wrap ((nn : Int) - 1) = (nn : Int) - 1 := IntWalk.i64_in _ (by omega)
      have wk' : IntKind.i64.wrap (kv - 1) = kv - 1 := IntWalk.i64_in _ (by omega)
      go_wp2_with fail
      refine (pick_any w0 p m cv bs ((nn : Int) - 1) _ h0 ok HSr.out (by omega) (by omega) (by omega)).mono ?_
      rintro e w4 ⟨r, m4, rfl, r0, r1, m40, m41, hs4, ht4⟩
      obtain ⟨i, rfl⟩ : ∃ i : Nat, r = (i : Int) := ⟨r.toNat, by omega⟩
      have hi : i < nn := by omega
      have hi1 : i + 1 < nn := by omega
      obtain ⟨A, x, y, R, hA, hE⟩ : ∃ A x y R, A.length = i ∧ xs = A ++ x :: y :: R := by
        have h1 : i < xs.length := by rw [HX.out]; exact hi
        have h2 : i + 1 < xs.length := by rw [HX.out]; exact hi1
        exact ⟨xs.take i, xs[i], xs[i + 1], xs.drop (i + 2), by rw [List.length_take]; omega, by rw [← List.drop_eq_getElem_cons h2, ← List.drop_eq_getElem_cons h1, List.take_append_drop]⟩
      have HA := Lib.hid hA
      have HO4 := Lib.hid (show w4.ownsRow w1.heap.size 2 1 (.slice (some ⟨g, 0, none⟩) nn c) nn ((A ++ x :: y :: R).map (Value.int .i64)) by rw [← hE]; exact owns_touch HO.out ht4 (by omega))
      have HK2 := Lib.hid (show RowOk (A ++ y :: x :: R) from row_swap (by rw [← hE]; exact HK.out))
      have HL2 := Lib.hid (show (A ++ y :: x :: R).length = nn by rw [← HX.out, hE]; simp)
      have HS4 := Lib.hid hs4; have HT4 := Lib.hid (HT.out.trans ht4)
      clear hs4 ht4 hA hE HK HX HO HSr HT
      obtain ⟨c0, c1⟩ := irow_at HO4.out HA.out
      have f0 := HO4.out.frozenAt i
      have f1 := HO4.out.frozenAt (i + 1)
      have q6 : g < w4.heap.size := (HO4.out.lt _ rfl).2
      have ST := Lib.hid (irow_set HO4.out HA.out y x)
      have z1 : ((i : Int) + 1).toNat = i + 1 := by omega
      have z0 : (0 : Int) ≤ (i : Int) + 1 := by omega
      have z2 : (i : Int) + 1 < (nn : Int) := by omega
      have z3 : (i : Int) < (nn : Int) := by omega
      have wi : IntKind.i64.wrap ((i : Int) + 1) = (i : Int) + 1 := IntWalk.i64_in _ (by omega)
      have HG := Lib.hid (Touch.of_grown (B := g) (E := g + 1) ST.out.2.1 (fun q hq => by cases hq; omega))
      clear HA
      go_wp2
      go_roundw
      case rel =>
        refine ⟨j + 1, m4, kv - 1, A ++ y :: x :: R, rfl, by omega, by omega, HL2.out, HK2.out, by omega, by omega, HS4.out.touch HG.out (.inl (by omega)) (by omega), ST.out.1, ?_⟩
        exact (HT4.out.setNew (p := ⟨g, i, none⟩) (by simp only; omega) _).setNew (p := ⟨g, i + 1, none⟩) (by simp only; omega) _
      case measure => simp [intOf]; omega
    · have dk : decide (0 < kv) = false := by simpa using hk
      go_wp2
      go_ret
      refine ⟨_, rfl, xs, HK.out, ?_, m, by omega, by omega, HSr.out, HT.out⟩
      have ho := HO.out
      rw [← HX.out] at ho
      have h1 := OwnInts.mk' ho
      rw [HX.out] at h1
      exact h1.wide (by omega) (Nat.le_refl _)

end Go.Proofs.Ytadnejajbdipoaa
