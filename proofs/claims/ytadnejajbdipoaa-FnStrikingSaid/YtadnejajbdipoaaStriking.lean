/- The law FnStriking returns true and leaves memory as it was. -/
import Derived.Test.YtadnejajbdipoaaStrikeI
import Derived.Test.YtadnejajbdipoaaByts
import Derived.Test.YtadnejajbdipoaaApt
set_option linter.unusedSimpArgs false
set_option linter.unnecessarySimpa false
set_option linter.unusedVariables false
set_option maxRecDepth 100000
namespace Go.Proofs.Ytadnejajbdipoaa
open Go.RowKit

def evL (t s : Int) (k : Nat) : List Int := (List.range k).map fun (j : Nat) => t + (j : Int) * s
theorem evL_len (t s : Int) (k : Nat) : (evL t s k).length = k := by simp [evL]
theorem evL_step (t s : Int) (k : Nat) : evL t s (k + 1) = evL t s k ++ [t + (k : Int) * s] := by simp [evL, List.range_succ]
theorem evL_at (t s : Int) {k i : Nat} (h : i < k) : (evL t s k).getD i 0 = t + (i : Int) * s := by simp [evL, h]
theorem near_five {x : Int} (h : 0 ≤ x) : near (x * 5) 5 = x := by
  unfold near
  rw [if_neg (by omega)]
  omega
theorem ev_ok {t s : Int} (t0 : 0 ≤ t) (t1 : t < 2000) (s0 : 1 ≤ s) (s1 : s ≤ 1000) : StrikeOk (evL t s 6) := by
  refine ⟨by rw [evL_len]; omega, fun k hk => ?_⟩
  rw [evL_len] at hk
  unfold RiseAt
  have hs : ∀ k : Nat, k < 6 → 0 ≤ (k : Int) * s ∧ (k : Int) * s ≤ 5 * 1000 := fun k hk => ⟨Int.mul_nonneg (by omega) (by omega), Int.mul_le_mul (by omega) s1 (by omega) (by omega)⟩
  have h1 := hs k hk
  rw [evL_at t s hk]
  refine ⟨by omega, by omega, ?_⟩
  rcases k with _ | k
  · exact .inl rfl
  · refine .inr ?_
    rw [show k + 1 - 1 = k from rfl, evL_at t s (by omega), Int.natCast_succ, Int.add_mul]
    omega
theorem ev_v {t s : Int} (t0 : 0 ≤ t) (t1 : t < 2000) (s0 : 1 ≤ s) (s1 : s ≤ 1000) : strikeV (evL t s 6) = [0, 0, 0, 0, 0, 0] ∧ strikeC (evL t s 6) = 0 := by
  obtain ⟨e1, e2⟩ := strike_yes (ev_ok t0 t1 s0 s1)
  refine ⟨?_, e2⟩
  rw [e1, evL_len]
  have hT : ∀ i : Nat, i < 6 → strikeT (evL t s 6) i = 0 := fun i hi => by
    unfold strikeT
    rw [evL_len, evL_at t s hi, evL_at t s (show 0 < 6 by omega), evL_at t s (show 6 - 1 < 6 by omega)]
    have e : (t + ((6 - 1 : Nat) : Int) * s - (t + ((0 : Nat) : Int) * s)) * (i : Int) = (i : Int) * s * 5 := by
      rw [show t + ((6 - 1 : Nat) : Int) * s - (t + ((0 : Nat) : Int) * s) = 5 * s by simp; omega, Int.mul_comm (i : Int) s, Int.mul_assoc 5 s, Int.mul_comm 5]
    have hp : 0 ≤ (i : Int) * s := Int.mul_nonneg (by omega) (by omega)
    rw [e, show ((6 : Nat) : Int) - 1 = 5 by rfl, near_five hp]
    simp; omega
  unfold strikeL
  simp [List.range_succ, hT]
/-- Strokes that rise, the next one u or later. -/
structure OddL (od : List Int) (u : Int) (k : Nat) : Prop where
  len : od.length = k
  mem : ∀ x ∈ od, 0 ≤ x ∧ x < u
  rise : od.Pairwise (· < ·)
  u0 : 0 ≤ u
  u1 : u ≤ 1999 + 900 * (k : Int)
theorem OddL.next {od : List Int} {u r : Int} {k : Nat} (h : OddL od u k) (r0 : 0 ≤ r) (r1 : r < 900) : OddL (od ++ [u]) (u + (1 + r)) (k + 1) := by
  have := h.u0; have := h.u1
  refine ⟨by rw [List.length_append, h.len]; rfl, fun x hx => ?_, ?_, by omega, by omega⟩
  · rcases List.mem_append.1 hx with hx | hx
    · have := h.mem x hx; omega
    · rw [List.mem_singleton.1 hx]; omega
  · rw [List.pairwise_append]
    refine ⟨h.rise, by simp, fun a ha b hb => ?_⟩
    rw [List.mem_singleton.1 hb]; exact (h.mem a ha).2
theorem odd_v {od : List Int} {u : Int} (h : OddL od u 6) : ∃ p q r s, strikeV od = [0, p, q, r, s, 0] ∧ strikeC od = 0 := by
  have hl := h.len
  have ok : StrikeOk od := by
    refine ⟨by omega, fun k hk => ?_⟩
    have h1 := h.mem _ (List.getElem_mem hk)
    have := h.u1
    unfold RiseAt
    simp only [List.getD_eq_getElem?_getD, List.getElem?_eq_getElem hk, Option.getD_some]
    refine ⟨by omega, by omega, ?_⟩
    rcases k with _ | k
    · exact .inl rfl
    · refine .inr ?_
      rw [show k + 1 - 1 = k from rfl, List.getElem?_eq_getElem (show k < od.length by omega)]
      exact List.pairwise_iff_getElem.1 h.rise k (k + 1) (by omega) hk (by omega)
  obtain ⟨e1, e2⟩ := strike_yes ok
  have hx : od.getD 0 0 ≤ od.getD 5 0 := by
    simp only [List.getD_eq_getElem?_getD, List.getElem?_eq_getElem (show 0 < od.length by omega), List.getElem?_eq_getElem (show 5 < od.length by omega), Option.getD_some]
    exact Int.le_of_lt (List.pairwise_iff_getElem.1 h.rise 0 5 (by omega) (by omega) (by omega))
  have t0 : strikeT od 0 = 0 := by
    unfold strikeT
    rw [hl, show (((0 : Nat)) : Int) = 0 from rfl, Int.mul_zero, near_zero (by omega)]; omega
  have t5 : strikeT od 5 = 0 := by
    unfold strikeT
    rw [hl, show 6 - 1 = 5 from rfl, show ((6 : Nat) : Int) - 1 = 5 by rfl, show ((5 : Nat) : Int) = 5 from rfl, near_five (by omega)]; omega
  refine ⟨strikeT od 1, strikeT od 2, strikeT od 3, strikeT od 4, ?_, e2⟩
  rw [e1, hl]
  unfold strikeL
  simp [List.range_succ, t0, t5]

theorem i64_small {n : Int} (h0 : 0 ≤ n) (h1 : n ≤ 1000000000) : I64 n := by simp only [I64, Lit.wf, IntKind.min, IntKind.max, IntKind.signed, IntKind.bits]; simp; omega

set_option maxHeartbeats 4000000 in
theorem lawStriking (w : World) (v0 : Value) (x0 : List Int) (h0 : Byts w v0 x0) (o0 : okByts x0) :
    Calls Try.prog 3 #[v0] w fun e w' => e = .returned (.bool true) ∧ Below w.heap.size w w' := by
  obtain ⟨a0, ca, rfl, hca, hcm, _⟩ := id h0
  have hm : x0.length ≤ maxLen := by omega
  unfold maxLen at hm
  clear hca hcm
  by_cases gl : x0.length ≤ 1048576
  rotate_left
  · have d1 : decide (1048576 < (x0.length : Int)) = true := by simp; omega
    go_enter Try.func3, Try.ntmps3
    go_wp2
    go_ret
    exact ⟨rfl, Below.refl _ _⟩
  have d1 : decide (1048576 < (x0.length : Int)) = false := by simp; omega
  go_enter Try.func3, Try.ntmps3
  go_wp2_with fail
  refine (r8Wide_any _ x0 0 1000 _ h0 o0 (by omega) (by omega) (by omega) (by omega)).mono ?_
  rintro e w1 ⟨s', rfl, s0, s1, hw⟩
  subst w1
  obtain ⟨s, hs⟩ : ∃ s, s = 1 + s' := ⟨_, rfl⟩
  have q1 : IntKind.i64.wrap (1 + s') = s := by rw [hs]; exact IntWalk.i64_in _ (by omega)
  have s2 : 1 ≤ s := by omega
  have s3 : s ≤ 1000 := by omega
  clear hs
  go_wp2_with fail
  refine (r8Wide_any _ x0 2 2000 _ (Byts.mono h0 (by (repeat (first | with_reducible exact Below.refl _ _ | with_reducible exact hbw | (with_reducible refine Below.setCell ?_ ?_ _; rotate_left; · first | exact Nat.le_refl _ | omega | (simp; done) | (simp; omega)) | (with_reducible refine Below.alloc ?_ ?_ _; rotate_left; · first | exact Nat.le_refl _ | omega | (simp; done) | (simp; omega)) | with_reducible refine below_drewN ?_ _ | with_reducible refine Below.drew ?_)))) o0 (by omega) (by omega) (by omega) (by omega)).mono ?_
  rintro e w2 ⟨t, rfl, t0, t1, hw⟩
  subst w2
  have hod : OddL [] t 0 := ⟨rfl, fun x hx => (by cases hx), List.Pairwise.nil, t0, by omega⟩
  have e1 := owns_empty w 2 1 w.heap.size (Nat.le_refl _)
  have e2 := owns_empty (w.alloc (.cells #[] 2)) 2 1 w.heap.size (by simp)
  have e3 := owns_mono (w' := (w.alloc (.cells #[] 2)).alloc (.cells #[] 2)) e1 (belowA _ _)
  have HB := Lib.hid (show Below w.heap.size w ((w.alloc (.cells #[] 2)).alloc (.cells #[] 2)) by (repeat (first | with_reducible exact Below.refl _ _ | with_reducible exact hbw | (with_reducible refine Below.setCell ?_ ?_ _; rotate_left; · first | exact Nat.le_refl _ | omega | (simp; done) | (simp; omega)) | (with_reducible refine Below.alloc ?_ ?_ _; rotate_left; · first | exact Nat.le_refl _ | omega | (simp; done) | (simp; omega)) | with_reducible refine below_drewN ?_ _ | with_reducible refine Below.drew ?_)))
  have E2 := Lib.hid e2; have E3 := Lib.hid e3; have HOD := Lib.hid hod
  clear e1 e2 e3 hod
  go_wp2_with fail
  go_loopw [4, 5, 7, 8] (fun ev od u i wr => ∃ (k : Nat) (L : List Int) (un : Int) (a1 : Option Addr) (c1 : Nat) (a2 : Option Addr) (c2 : Nat), k ≤ 6 ∧ i = .int .i64 (k : Int) ∧ u = .int .i64 un ∧ ev = .slice a1 k c1 ∧ od = .slice a2 k c2 ∧ OddL L un k ∧ wr.ownsRow w.heap.size 2 1 (.slice a1 k c1) k ((evL t s k).map (Value.int .i64)) ∧ wr.ownsRow w.heap.size 2 1 (.slice a2 k c2) k (L.map (Value.int .i64)) ∧ Apt (.slice a1 k c1) (.slice a2 k c2) ∧ Below w.heap.size w wr) (fun _ _ _ i _ => 6 - (intOf i).toNat)
  case atStart => exact ⟨0, [], t, some ⟨w.heap.size, 0, none⟩, 0, some ⟨w.heap.size + 1, 0, none⟩, 0, by omega, by go_num, rfl, rfl, by simp, HOD.out, by simpa [evL] using E3.out, by simpa using E2.out, .inr (.inr (by simp [Value.ownBlock])), HB.out⟩
  case round =>
    obtain ⟨k, L, un, a1, c1, a2, c2, hk, rfl, rfl, rfl, rfl, hod, he, ho, hap, hb⟩ := hrel
    have HE := Lib.hid he; have HO := Lib.hid ho; have HAP := Lib.hid hap; have HOD := Lib.hid hod
    clear he ho hap hod HB E2 E3
    have hz := hb.size
    have u0 := HOD.out.u0
    have u1 := HOD.out.u1
    by_cases hlt : k < 6
    · have dk : decide ((k : Int) < 6) = true := by simp; omega
      have m0 : 0 ≤ (k : Int) * s := Int.mul_nonneg (by omega) (by omega)
      have m1 : (k : Int) * s ≤ 6 * 1000 := Int.mul_le_mul (by omega) s3 (by omega) (by omega)
      have w1' : IntKind.i64.wrap ((k : Int) * s) = (k : Int) * s := IntWalk.i64_in _ (by omega)
      have w2' : IntKind.i64.wrap (t + (k : Int) * s) = t + (k : Int) * s := IntWalk.i64_in _ (by omega)
      have w3' : IntKind.i64.wrap (2 * (k : Int)) = 2 * (k : Int) := IntWalk.i64_in _ (by omega)
      have w4' : IntKind.i64.wrap (4 + 2 * (k : Int)) = 4 + 2 * (k : Int) := IntWalk.i64_in _ (by omega)
      go_wp2_with (at_builtin; refine append_one_at rfl _ _ 24 rfl w.heap.size 2 (.int .i64 0) 1 8 Try.underlying24 info_int rfl (by decide) _ k _ rfl HE.out [.int .i64 (t + (k : Int) * s)] rfl (by simp [Value.oneCell']) wr.heap.size rfl rfl (by omega) (by decide) hz ?_)
      intro a5 c5 w5 ho5 hg5 hb5 hn5
      have hz5 := hb5.size
      have HO5 := Lib.hid ho5
      have HD5 := Lib.hid (Apt.keep HAP.out HO.out hg5)
      have HP5 := Lib.hid ((Apt.next HAP.out hn5 (fun q hq => (HO.out.lt q hq).2)).symm)
      have HB5 := Lib.hid (hb.trans hb5)
      clear ho5 hg5 hn5 hb5
      go_wp2_with (at_builtin; refine append_one_at rfl _ _ 24 rfl w.heap.size 2 (.int .i64 0) 1 8 Try.underlying24 info_int rfl (by decide) _ k _ rfl HD5.out [.int .i64 un] rfl (by simp [Value.oneCell']) w5.heap.size rfl rfl (by omega) (by decide) (by omega) ?_)
      intro a6 c6 w6 ho6 hg6 hb6 hn6
      have HO6 := Lib.hid ho6
      have HD6 := Lib.hid (Apt.keep HP5.out HO5.out hg6)
      have HP6 := Lib.hid ((Apt.next HP5.out hn6 (fun q hq => (HO5.out.lt q hq).2)).symm)
      have HB6 := Lib.hid (HB5.out.trans hb6)
      clear ho6 hg6 hn6 hb6
      go_wp2_with fail
      refine (r8Wide_any _ x0 (4 + 2 * (k : Int)) 900 _ (Byts.mono h0 HB6.out) o0 (by omega) (by omega) (by omega) (by omega)).mono ?_
      rintro e w7 ⟨r, rfl, r0, r1, hw⟩
      subst w7
      have w5' : IntKind.i64.wrap (1 + r) = 1 + r := IntWalk.i64_in _ (by omega)
      have w6' : IntKind.i64.wrap (un + (1 + r)) = un + (1 + r) := IntWalk.i64_in _ (by omega)
      have HN := Lib.hid (HOD.out.next r0 r1)
      clear w1' w2' w3' w4'
      go_wp2
      go_roundw
      case rel => exact ⟨k + 1, L ++ [un], un + (1 + r), a5, c5, a6, c6, by omega, by go_num, rfl, rfl, rfl, HN.out, by rw [evL_step, List.map_append]; exact HD6.out, by rw [List.map_append]; exact HO6.out, HP6.out, HB6.out⟩
      case measure => simp [intOf] <;> omega
    · obtain rfl : k = 6 := by omega
      obtain ⟨V1, V2⟩ := ev_v t0 t1 s2 s3
      obtain ⟨p1, p2, p3, p4, U1, U2⟩ := odd_v HOD.out
      have HV1 := Lib.hid V1; have HV2 := Lib.hid V2; have HU1 := Lib.hid U1; have HU2 := Lib.hid U2
      have hse : RdInts wr (.slice a1 6 c1) (evL t s 6) := by have := Ints.of_owns (zs := evL t s 6) (by rw [evL_len]; exact HE.out); exact this
      have hso : RdInts wr (.slice a2 6 c2) L := by have := Ints.of_owns (zs := L) (by rw [HOD.out.len]; exact HO.out); exact this
      have HSE := Lib.hid hse; have HSO := Lib.hid hso
      have hie : ∀ x ∈ evL t s 6, I64 x := fun x hx => by
        obtain ⟨i, hi, rfl⟩ := List.mem_map.1 hx
        have hi := List.mem_range.1 hi
        have m0 : 0 ≤ (i : Int) * s := Int.mul_nonneg (by omega) (by omega)
        have m1 : (i : Int) * s ≤ 6 * 1000 := Int.mul_le_mul (by omega) s3 (by omega) (by omega)
        exact i64_small (by omega) (by omega)
      have hio : ∀ x ∈ L, I64 x := fun x hx => by have := HOD.out.mem x hx; exact i64_small (by omega) (by omega)
      have HIE := Lib.hid hie; have HIO := Lib.hid hio
      clear V1 V2 U1 U2 hse hso hie hio
      go_wp2_with fail
      refine (implStrikeErrors_any _ (evL t s 6) _ HSE.out HIE.out (by rw [evL_len]; omega)).mono ?_
      rw [HV1.out, HV2.out]
      rintro e w8 ⟨v8, rfl, ho8, hb8⟩
      obtain ⟨a8, c8, rfl⟩ := ho8.form
      have HO8 := Lib.hid ho8; have HB8 := Lib.hid (hb.trans (hb8.mono hz)); have HS8 := Lib.hid (HSO.out.mono hb8)
      clear ho8 hb8
      go_wp2_with fail
      refine (implStrikeErrors_any _ L _ HS8.out HIO.out (by rw [HOD.out.len]; omega)).mono ?_
      rw [HU1.out, HU2.out]
      rintro e w9 ⟨v9, rfl, ho9, hb9⟩
      obtain ⟨a9, c9, rfl⟩ := ho9.form
      have hz8 := HB8.out.size
      have HB9 := Lib.hid (HB8.out.trans (hb9.mono hz8))
      have hsl8 := (HO8.out.mono hb9).rd
      have hsl9 := ho9.rd
      obtain ⟨b8, o8, rfl, x8⟩ := Sl.cells hsl8 (by simp)
      obtain ⟨b9, o9, rfl, x9⟩ := Sl.cells hsl9 (by simp)
      have y0 : w9.cell? ⟨b9, o9, none⟩ = some (.int .i64 0) := by have := x9 0 (.int .i64 0) rfl; simpa using this
      have y5 : w9.cell? ⟨b9, o9 + 5, none⟩ = some (.int .i64 0) := x9 5 _ rfl
      have X8 := Lib.hid (show ∀ k : Nat, k < 6 → w9.cell? ⟨b8, o8 + k, none⟩ = some (.int .i64 0) from fun k hk => x8 k _ (by
        match k, hk with
        | 0, _ => rfl
        | 1, _ => rfl
        | 2, _ => rfl
        | 3, _ => rfl
        | 4, _ => rfl
        | 5, _ => rfl))
      clear ho9 hb9 hsl8 hsl9 x8 x9
      simp only [List.length_cons, List.length_nil]
      go_wp2_with fail
      go_loopw [13] (fun i wr => ∃ k : Nat, k ≤ 6 ∧ i = .int .i64 (k : Int) ∧ wr = w9) (fun i _ => 6 - (intOf i).toNat)
      case atStart => exact ⟨0, by omega, by go_num, rfl⟩
      case round =>
        obtain ⟨k, hk, rfl, rfl⟩ := hrel
        by_cases hlt : k < 6
        · have z := X8.out k hlt
          have dk : decide ((k : Int) < 6) = true := by simp; omega
          have k6 : (k : Int) < 6 := by omega
          go_wp2
          go_roundw
          case rel => exact ⟨k + 1, by omega, by go_num, by first | rfl | trivial⟩
          case measure => simp [intOf] <;> omega
        · have dk : decide ((k : Int) < 6) = false := by simp; omega
          have k6 : ¬ (k : Int) < 6 := by omega
          go_wp2
          go_ret
          exact ⟨rfl, HB9.out⟩

end Go.Proofs.Ytadnejajbdipoaa
