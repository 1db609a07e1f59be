/- The reference's reading of a decimal text. Contract of l01Number. -/
import Derived.Test.YtgdfecnpkjnhnaaDoorNumL
import Derived.Test.YtgdfecnpkjnhnaaDoorName
set_option linter.unusedSimpArgs false
set_option linter.unnecessarySimpa false
set_option linter.unusedVariables false
set_option maxRecDepth 100000
namespace Go.Proofs.YtgdfecnpkjnhnaaDoor
open Go.RowKit

theorem num_no {l : List UInt8} (h : ¬ (Canon (body l) ∧ (body l).length ≤ 18 ∧ (l.head? = some 45 → body l ≠ [48]))) : numOk l = false ∧ numV l = 0 := by
  have : numOk l = false := decide_eq_false h
  exact ⟨this, by unfold numV; rw [this]; rfl⟩
theorem num_no_empty {l : List UInt8} (h : body l = []) : numOk l = false ∧ numV l = 0 := num_no fun g => g.1.ne h
theorem num_no_long {l : List UInt8} (h : 18 < (body l).length) : numOk l = false ∧ numV l = 0 := num_no fun g => by have := g.2.1; omega
theorem num_no_zero {l : List UInt8} (h : (body l).head? = some 48) (h1 : 1 < l.length) : numOk l = false ∧ numV l = 0 := num_no fun g => by
  have e := g.1.first h
  by_cases g45 : l.head? = some 45
  · exact g.2.2 g45 e
  · have : body l = l := if_neg g45
    rw [this] at e
    rw [e] at h1; simp at h1
theorem num_no_digit {l : List UInt8} {b : UInt8} (h : b ∈ body l) (hd : ¬ dig b) : numOk l = false ∧ numV l = 0 := num_no fun g => hd (g.1.digs b h)
theorem num_yes {l : List UInt8} (h0 : body l ≠ []) (h1 : (body l).length ≤ 18) (h2 : ¬ ((body l).head? = some 48 ∧ 1 < l.length)) (h3 : ∀ b ∈ body l, dig b) : numOk l = true := by
  have hl : l ≠ [] := fun e => by rw [e] at h0; exact h0 rfl
  refine decide_eq_true ⟨⟨h0, h3, fun e => ?_⟩, h1, fun g e => ?_⟩
  · by_cases g : l.head? = some 45
    · exfalso
      apply h2
      refine ⟨e, ?_⟩
      have hb : body l = l.drop 1 := if_pos g
      have : 0 < (l.drop 1).length := List.length_pos_iff.2 (by rw [← hb]; exact h0)
      rw [List.length_drop] at this; omega
    · have hb : body l = l := if_neg g
      rw [hb] at e ⊢
      match l, hl with
      | [x], _ => simp only [List.head?_cons, Option.some.injEq] at e; rw [e]
      | x :: y :: r, _ => exact absurd ⟨by rw [hb]; exact e, by simp⟩ h2
  · apply h2
    have hb : body l = l.drop 1 := if_pos g
    refine ⟨by rw [e]; rfl, ?_⟩
    have : (l.drop 1).length = 1 := by rw [← hb, e]; rfl
    rw [List.length_drop] at this; omega
theorem num_val {l : List UInt8} (h : numOk l = true) : numV l = if l.head? = some 45 then -(valD 0 (body l) : Int) else (valD 0 (body l) : Int) := by unfold numV; rw [if_pos h]
/-- The digits of l from a up to k, read. -/
def upto (l : List UInt8) (a k : Nat) : Nat := valD 0 ((l.take k).drop a)
theorem upto_start (l : List UInt8) (a : Nat) : upto l a a = 0 := by
  unfold upto
  rw [List.drop_eq_nil_of_le (by rw [List.length_take]; omega)]; rfl
theorem upto_step {l : List UInt8} {a k : Nat} (hk : k < l.length) (ha : a ≤ k) : upto l a (k + 1) = upto l a k * 10 + (l[k].toNat - 48) := by
  unfold upto
  rw [List.take_succ_eq_append_getElem hk, List.drop_append_of_le_length (by rw [List.length_take]; omega), valD_snoc]
def digsTo (l : List UInt8) (a k : Nat) : Prop := ∀ b ∈ (l.take k).drop a, dig b
theorem digsTo_start (l : List UInt8) (a : Nat) : digsTo l a a := by
  unfold digsTo
  rw [List.drop_eq_nil_of_le (by rw [List.length_take]; omega)]; intro b hb; cases hb
theorem digsTo_step {l : List UInt8} {a k : Nat} (h : digsTo l a k) (hk : k < l.length) (ha : a ≤ k) (hd : dig l[k]) : digsTo l a (k + 1) := by
  unfold digsTo at *
  rw [List.take_succ_eq_append_getElem hk, List.drop_append_of_le_length (by rw [List.length_take]; omega)]
  intro b hb
  rcases List.mem_append.1 hb with hb | hb
  · exact h b hb
  · rw [List.mem_singleton.1 hb]; exact hd
theorem upto_lt {l : List UInt8} {a k : Nat} (h : digsTo l a k) (hk : k ≤ a + 17) : upto l a k < 100000000000000000 := by
  have h1 := valD_lt _ h
  have h2 : 10 ^ ((l.take k).drop a).length ≤ 10 ^ 17 := Nat.pow_le_pow_right (by omega) (by rw [List.length_drop, List.length_take]; omega)
  unfold upto
  omega
theorem mem_drop {l : List UInt8} {a k : Nat} (h : k < l.length) (ha : a ≤ k) : l[k] ∈ l.drop a := by
  rw [List.mem_iff_getElem?]
  exact ⟨k - a, by rw [List.getElem?_drop, show a + (k - a) = k by omega, List.getElem?_eq_getElem h]⟩
theorem digC (b : UInt8) : digitC (b.toNat : Int) ↔ dig b := by unfold digitC dig; omega

set_option maxHeartbeats 4000000 in
theorem l01Number_any (s : ByteArray) (w : World) (hs : s.size ≤ 1048576) :
    Calls Tryd.prog 103 #[.string s] w fun e w' => e = .returned (.tuple #[.int .i64 (numV s.data.toList), .bool (numOk s.data.toList)]) ∧ w' = w := by
  obtain ⟨l, hl⟩ : ∃ l, l = s.data.toList := ⟨_, rfl⟩
  have hsz : l.length = s.size := by rw [hl]; rfl
  have hbt : ∀ k (h : k < s.size) (h2 : k < l.length), s[k] = l[k] := by
    intro k h h2
    subst hl; rfl
  have HB := Lib.hid hbt
  have HSZ := Lib.hid hsz
  rw [← hl]
  clear hbt hsz hl
  by_cases e0 : s.size = 0
  · have hl0 : l = [] := List.eq_nil_of_length_eq_zero (by rw [HSZ.out]; exact e0)
    have HN := Lib.hid (num_no_empty (l := l) (by rw [hl0]; rfl))
    clear hl0
    go_enter Tryd.func103, Tryd.ntmps103
    go_wp2
    go_ret2
    exact ⟨by rw [HN.out.1, HN.out.2]; rfl, rfl⟩
  have z0 : 0 < s.size := by omega
  have z0l : 0 < l.length := by rw [HSZ.out]; exact z0
  have HH := Lib.hid (show l.head? = some l[0] by rw [List.head?_eq_getElem?, List.getElem?_eq_getElem z0l])
  obtain ⟨g0, hg0⟩ : ∃ g : Int, (s[0].toNat : Int) = g := ⟨_, rfl⟩
  have HG0 := Lib.hid (show g0 = (l[0].toNat : Int) by rw [← hg0, HB.out 0 z0 z0l])
  by_cases c45 : l[0] = 45
  · have dc : (g0 == 45) = true := by rw [HG0.out, c45]; rfl
    have HBY := Lib.hid (show body l = l.drop 1 from if_pos (by rw [HH.out, c45]))
    have HV := Lib.hid (fun (h : numOk l = true) => (num_val h).trans (if_pos (by rw [HH.out, c45])))
    clear c45
    by_cases e1 : s.size = 1
    · have HN := Lib.hid (num_no_empty (l := l) (by rw [HBY.out]; exact List.drop_eq_nil_of_le (by rw [HSZ.out, e1]; omega)))
      go_enter Tryd.func103, Tryd.ntmps103
      go_wp2
      go_ret2
      exact ⟨by rw [HN.out.1, HN.out.2]; rfl, rfl⟩
    have hb1 : (body l).length = s.size - 1 := by rw [HBY.out, List.length_drop, HSZ.out]
    have z1 : 1 < s.size := by omega
    have z1l : 1 < l.length := by rw [HSZ.out]; exact z1
    obtain ⟨g1, hg1⟩ : ∃ g : Int, (s[1].toNat : Int) = g := ⟨_, rfl⟩
    have HG1 := Lib.hid (show g1 = (l[1].toNat : Int) by rw [← hg1, HB.out 1 z1 z1l])
    have HD1 := Lib.hid (show (body l).head? = some l[1] by rw [HBY.out, List.head?_drop, List.getElem?_eq_getElem z1l])
    have HNE := Lib.hid (show body l ≠ [] from fun e => by rw [e] at hb1; simp at hb1; omega)
    by_cases e2 : 18 < s.size - 1
    · have HN := Lib.hid (num_no_long (l := l) (by rw [hb1]; exact e2))
      go_enter Tryd.func103, Tryd.ntmps103
      go_wp2
      go_ret2
      exact ⟨by rw [HN.out.1, HN.out.2]; rfl, rfl⟩
    have f1 : ((s.size : Int) == 1) = false := by simp only [beq_eq_false_iff_ne, ne_eq]; omega
    have f2 : decide (18 < (s.size : Int) - 1) = false := by simp only [decide_eq_false_iff_not]; omega
    have f3 : decide (1 < (s.size : Int)) = true := by simp only [decide_eq_true_eq]; omega
    have f4 : decide (1 < s.size) = true := by simp only [decide_eq_true_eq]; omega
    by_cases e3 : l[1] = 48
    · have d3 : (g1 == 48) = true := by rw [HG1.out, e3]; rfl
      have HN := Lib.hid (num_no_zero (l := l) (by rw [HD1.out, e3]) (by rw [HSZ.out]; exact z1))
      clear e3
      go_enter Tryd.func103, Tryd.ntmps103
      go_wp2
      go_ret2
      exact ⟨by rw [HN.out.1, HN.out.2]; rfl, rfl⟩
    · have d3 : (g1 == 48) = false := by
        rw [HG1.out]
        simp only [beq_eq_false_iff_ne, ne_eq]
        exact fun e => e3 (UInt8.toNat_inj.1 (by have : (48 : UInt8).toNat = 48 := rfl; omega))
      have HY := Lib.hid (num_yes (l := l) HNE.out (by rw [hb1]; omega) (fun e => by rw [HD1.out] at e; exact e3 (Option.some.inj e.1)))
      clear e3
      go_enter Tryd.func103, Tryd.ntmps103
      go_wp2_with fail
      go_loop [5, 6] (fun n i => ∃ k : Nat, 1 ≤ k ∧ k ≤ s.size ∧ i = .int .i64 (k : Int) ∧ n = .int .i64 ((upto l 1 k : Nat) : Int) ∧ digsTo l 1 k) (fun n i => s.size - (intOf i).toNat)
      case atStart => exact ⟨1, Nat.le_refl _, by omega, by go_num, by rw [upto_start]; go_num, digsTo_start _ _⟩
      case round =>
        obtain ⟨k, h1k, hk, rfl, rfl, hd⟩ := hrel
        have HDG := Lib.hid hd
        clear hd
        by_cases hlt : k < s.size
        · have hkl : k < l.length := by rw [HSZ.out]; exact hlt
          obtain ⟨g, hg⟩ : ∃ g : Int, (s[k].toNat : Int) = g := ⟨_, rfl⟩
          have HG := Lib.hid (show g = (l[k].toNat : Int) by rw [← hg, HB.out k hlt hkl])
          by_cases hd : dig l[k]
          · have HC := Lib.hid (show true = decide (digitC g) from (decide_eq_true (by rw [HG.out]; exact (digC _).2 hd)).symm)
            have HS := Lib.hid (upto_step hkl h1k)
            have HDN := Lib.hid (digsTo_step HDG.out hkl h1k hd)
            have hu := upto_lt HDG.out (by omega)
            obtain ⟨u, hu2⟩ : ∃ u, u = upto l 1 k := ⟨_, rfl⟩
            rw [← hu2] at hu ⊢
            have HU := Lib.hid hu2
            obtain ⟨d, hdd⟩ : ∃ d : Nat, d = l[k].toNat - 48 := ⟨_, rfl⟩
            have hd9 : d ≤ 9 := by unfold dig at hd; omega
            have w1 : IntKind.u8.wrap (g - 48) = (d : Int) := by
              rw [HG.out, show (l[k].toNat : Int) - 48 = (d : Int) by unfold dig at hd; omega]
              exact IntWalk.u8_in _ (by omega)
            have HE := Lib.hid (show 10 * (u : Int) + (d : Int) = ((upto l 1 (k + 1) : Nat) : Int) by rw [HS.out, ← HU.out, ← hdd]; omega)
            clear hd hdd hu2
            go_wp2_with fail
            refine (l01Digit_any true _ _ HC.out).mono ?_
            rintro e w1 ⟨rfl, rfl⟩
            go_wp2
            exact ⟨⟨k + 1, by omega, by omega, by go_num, by rw [← HE.out], HDN.out⟩, by simp [intOf] <;> omega⟩
          · have HC := Lib.hid (show false = decide (digitC g) from (decide_eq_false (by rw [HG.out]; exact fun e => hd ((digC _).1 e))).symm)
            have HN := Lib.hid (num_no_digit (l := l) (b := l[k]) (by rw [HBY.out]; exact mem_drop hkl h1k) hd)
            clear hd
            go_wp2_with fail
            refine (l01Digit_any false _ _ HC.out).mono ?_
            rintro e w1 ⟨rfl, rfl⟩
            go_wp2
            go_ret2
            exact ⟨by rw [HN.out.1, HN.out.2]; rfl, rfl⟩
        · obtain rfl : k = s.size := by omega
          have HOK := Lib.hid (HY.out (by
            have := HDG.out
            unfold digsTo at this
            rw [← HSZ.out, List.take_length] at this
            rw [HBY.out]; exact this))
          have HVV := Lib.hid (HV.out HOK.out)
          have HUU := Lib.hid (show upto l 1 s.size = valD 0 (body l) by unfold upto; rw [← HSZ.out, List.take_length, HBY.out])
          have hbd := numV_bd (l := l)
          rw [HVV.out, ← HUU.out] at hbd
          go_wp2
          go_ret2
          exact ⟨by rw [HVV.out, HOK.out, ← HUU.out]; rfl, rfl⟩
  · have dc : (g0 == 45) = false := by
      rw [HG0.out]
      simp only [beq_eq_false_iff_ne, ne_eq]
      exact fun e => c45 (UInt8.toNat_inj.1 (by have : (45 : UInt8).toNat = 45 := rfl; omega))
    have HBY := Lib.hid (show body l = l.drop 0 from (if_neg (by rw [HH.out]; exact fun e => c45 (Option.some.inj e))).trans List.drop_zero.symm)
    have HV := Lib.hid (fun (h : numOk l = true) => (num_val h).trans (if_neg (by rw [HH.out]; exact fun e => c45 (Option.some.inj e))))
    clear c45
    have hb1 : (body l).length = s.size := by rw [HBY.out, List.drop_zero, HSZ.out]
    have HD1 := Lib.hid (show (body l).head? = some l[0] by rw [HBY.out, List.drop_zero, HH.out])
    have HNE := Lib.hid (show body l ≠ [] from fun e => by rw [e] at hb1; simp at hb1; omega)
    by_cases e2 : 18 < s.size
    · have HN := Lib.hid (num_no_long (l := l) (by rw [hb1]; exact e2))
      go_enter Tryd.func103, Tryd.ntmps103
      go_wp2
      go_ret2
      exact ⟨by rw [HN.out.1, HN.out.2]; rfl, rfl⟩
    have f1 : ((s.size : Int) == 0) = false := by simp only [beq_eq_false_iff_ne, ne_eq]; omega
    have f2 : decide (18 < (s.size : Int)) = false := by simp only [decide_eq_false_iff_not]; omega
    have f3 : decide (18 < s.size) = false := by simp only [decide_eq_false_iff_not]; omega
    by_cases e3 : l[0] = 48
    · have d3 : (g0 == 48) = true := by rw [HG0.out, e3]; rfl
      by_cases e4 : 1 < s.size
      · have d4 : decide (1 < (s.size : Int)) = true := by simp; omega
        have d5 : decide (1 < s.size) = true := by simp; omega
        have HN := Lib.hid (num_no_zero (l := l) (by rw [HD1.out, e3]) (by rw [HSZ.out]; exact e4))
        clear e3
        go_enter Tryd.func103, Tryd.ntmps103
        go_wp2
        go_ret2
        exact ⟨by rw [HN.out.1, HN.out.2]; rfl, rfl⟩
      · have d4 : decide (1 < (s.size : Int)) = false := by simp; omega
        have d5 : decide (1 < s.size) = false := by simp; omega
        have HY := Lib.hid (num_yes (l := l) HNE.out (by rw [hb1]; omega) (fun e => by have := HSZ.out; omega))
        clear e3
        go_enter Tryd.func103, Tryd.ntmps103
        go_wp2_with fail
        go_loop [5, 6] (fun n i => ∃ k : Nat, 0 ≤ k ∧ k ≤ s.size ∧ i = .int .i64 (k : Int) ∧ n = .int .i64 ((upto l 0 k : Nat) : Int) ∧ digsTo l 0 k) (fun n i => s.size - (intOf i).toNat)
        case atStart => exact ⟨0, Nat.le_refl _, by omega, by go_num, by rw [upto_start]; go_num, digsTo_start _ _⟩
        case round =>
          obtain ⟨k, h1k, hk, rfl, rfl, hd⟩ := hrel
          have HDG := Lib.hid hd
          clear hd
          by_cases hlt : k < s.size
          · have hkl : k < l.length := by rw [HSZ.out]; exact hlt
            obtain ⟨g, hg⟩ : ∃ g : Int, (s[k].toNat : Int) = g := ⟨_, rfl⟩
            have HG := Lib.hid (show g = (l[k].toNat : Int) by rw [← hg, HB.out k hlt hkl])
            by_cases hd : dig l[k]
            · have HC := Lib.hid (show true = decide (digitC g) from (decide_eq_true (by rw [HG.out]; exact (digC _).2 hd)).symm)
              have HS := Lib.hid (upto_step hkl h1k)
              have HDN := Lib.hid (digsTo_step HDG.out hkl h1k hd)
              have hu := upto_lt HDG.out (by omega)
              obtain ⟨u, hu2⟩ : ∃ u, u = upto l 0 k := ⟨_, rfl⟩
              rw [← hu2] at hu ⊢
              have HU := Lib.hid hu2
              obtain ⟨d, hdd⟩ : ∃ d : Nat, d = l[k].toNat - 48 := ⟨_, rfl⟩
              have hd9 : d ≤ 9 := by unfold dig at hd; omega
              have w1 : IntKind.u8.wrap (g - 48) = (d : Int) := by
                rw [HG.out, show (l[k].toNat : Int) - 48 = (d : Int) by unfold dig at hd; omega]
                exact IntWalk.u8_in _ (by omega)
              have HE := Lib.hid (show 10 * (u : Int) + (d : Int) = ((upto l 0 (k + 1) : Nat) : Int) by rw [HS.out, ← HU.out, ← hdd]; omega)
              clear hd hdd hu2
              go_wp2_with fail
              refine (l01Digit_any true _ _ HC.out).mono ?_
              rintro e w1 ⟨rfl, rfl⟩
              go_wp2
              exact ⟨⟨k + 1, by omega, by omega, by go_num, by rw [← HE.out], HDN.out⟩, by simp [intOf] <;> omega⟩
            · have HC := Lib.hid (show false = decide (digitC g) from (decide_eq_false (by rw [HG.out]; exact fun e => hd ((digC _).1 e))).symm)
              have HN := Lib.hid (num_no_digit (l := l) (b := l[k]) (by rw [HBY.out]; exact mem_drop hkl h1k) hd)
              clear hd
              go_wp2_with fail
              refine (l01Digit_any false _ _ HC.out).mono ?_
              rintro e w1 ⟨rfl, rfl⟩
              go_wp2
              go_ret2
              exact ⟨by rw [HN.out.1, HN.out.2]; rfl, rfl⟩
          · obtain rfl : k = s.size := by omega
            have HOK := Lib.hid (HY.out (by
              have := HDG.out
              unfold digsTo at this
              rw [← HSZ.out, List.take_length] at this
              rw [HBY.out]; exact this))
            have HVV := Lib.hid (HV.out HOK.out)
            have HUU := Lib.hid (show upto l 0 s.size = valD 0 (body l) by unfold upto; rw [← HSZ.out, List.take_length, HBY.out])
            have hbd := numV_bd (l := l)
            rw [HVV.out, ← HUU.out] at hbd
            go_wp2
            go_ret2
            exact ⟨by rw [HVV.out, HOK.out, ← HUU.out]; rfl, rfl⟩
    · have d3 : (g0 == 48) = false := by
        rw [HG0.out]
        simp only [beq_eq_false_iff_ne, ne_eq]
        exact fun e => e3 (UInt8.toNat_inj.1 (by have : (48 : UInt8).toNat = 48 := rfl; omega))
      have HY := Lib.hid (num_yes (l := l) HNE.out (by rw [hb1]; omega) (fun e => by rw [HD1.out] at e; exact e3 (Option.some.inj e.1)))
      clear e3
      go_enter Tryd.func103, Tryd.ntmps103
      go_wp2_with fail
      go_loop [5, 6] (fun n i => ∃ k : Nat, 0 ≤ k ∧ k ≤ s.size ∧ i = .int .i64 (k : Int) ∧ n = .int .i64 ((upto l 0 k : Nat) : Int) ∧ digsTo l 0 k) (fun n i => s.size - (intOf i).toNat)
      case atStart => exact ⟨0, Nat.le_refl _, by omega, by go_num, by rw [upto_start]; go_num, digsTo_start _ _⟩
      case round =>
        obtain ⟨k, h1k, hk, rfl, rfl, hd⟩ := hrel
        have HDG := Lib.hid hd
        clear hd
        by_cases hlt : k < s.size
        · have hkl : k < l.length := by rw [HSZ.out]; exact hlt
          obtain ⟨g, hg⟩ : ∃ g : Int, (s[k].toNat : Int) = g := ⟨_, rfl⟩
          have HG := Lib.hid (show g = (l[k].toNat : Int) by rw [← hg, HB.out k hlt hkl])
          by_cases hd : dig l[k]
          · have HC := Lib.hid (show true = decide (digitC g) from (decide_eq_true (by rw [HG.out]; exact (digC _).2 hd)).symm)
            have HS := Lib.hid (upto_step hkl h1k)
            have HDN := Lib.hid (digsTo_step HDG.out hkl h1k hd)
            have hu := upto_lt HDG.out (by omega)
            obtain ⟨u, hu2⟩ : ∃ u, u = upto l 0 k := ⟨_, rfl⟩
            rw [← hu2] at hu ⊢
            have HU := Lib.hid hu2
            obtain ⟨d, hdd⟩ : ∃ d : Nat, d = l[k].toNat - 48 := ⟨_, rfl⟩
            have hd9 : d ≤ 9 := by unfold dig at hd; omega
            have w1 : IntKind.u8.wrap (g - 48) = (d : Int) := by
              rw [HG.out, show (l[k].toNat : Int) - 48 = (d : Int) by unfold dig at hd; omega]
              exact IntWalk.u8_in _ (by omega)
            have HE := Lib.hid (show 10 * (u : Int) + (d : Int) = ((upto l 0 (k + 1) : Nat) : Int) by rw [HS.out, ← HU.out, ← hdd]; omega)
            clear hd hdd hu2
            go_wp2_with fail
            refine (l01Digit_any true _ _ HC.out).mono ?_
            rintro e w1 ⟨rfl, rfl⟩
            go_wp2
            exact ⟨⟨k + 1, by omega, by omega, by go_num, by rw [← HE.out], HDN.out⟩, by simp [intOf] <;> omega⟩
          · have HC := Lib.hid (show false = decide (digitC g) from (decide_eq_false (by rw [HG.out]; exact fun e => hd ((digC _).1 e))).symm)
            have HN := Lib.hid (num_no_digit (l := l) (b := l[k]) (by rw [HBY.out]; exact mem_drop hkl h1k) hd)
            clear hd
            go_wp2_with fail
            refine (l01Digit_any false _ _ HC.out).mono ?_
            rintro e w1 ⟨rfl, rfl⟩
            go_wp2
            go_ret2
            exact ⟨by rw [HN.out.1, HN.out.2]; rfl, rfl⟩
        · obtain rfl : k = s.size := by omega
          have HOK := Lib.hid (HY.out (by
            have := HDG.out
            unfold digsTo at this
            rw [← HSZ.out, List.take_length] at this
            rw [HBY.out]; exact this))
          have HVV := Lib.hid (HV.out HOK.out)
          have HUU := Lib.hid (show upto l 0 s.size = valD 0 (body l) by unfold upto; rw [← HSZ.out, List.take_length, HBY.out])
          have hbd := numV_bd (l := l)
          rw [HVV.out, ← HUU.out] at hbd
          go_wp2
          go_ret2
          exact ⟨by rw [HVV.out, HOK.out, ← HUU.out]; rfl, rfl⟩

end Go.Proofs.YtgdfecnpkjnhnaaDoor
