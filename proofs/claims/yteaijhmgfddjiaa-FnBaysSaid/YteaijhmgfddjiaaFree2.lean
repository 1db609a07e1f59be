/- FreeFrom of the program; b10Kinds of the laws. -/
import Derived.Test.YteaijhmgfddjiaaFree
set_option linter.unusedSimpArgs false
set_option linter.unnecessarySimpa false
set_option linter.unusedVariables false
set_option maxRecDepth 100000
namespace Go.Proofs.Yteaijhmgfddjiaa
open Go.RowKit

/-- At time t the casting i does not keep the bay. -/
def quietAt (list : List CasD) (pl : List Int) (bay t : Int) (i : Nat) : Prop := pl.getD i 0 = bay → ¬ ((list.getD i zCas).since ≤ t ∧ t ≤ stripV (list.getD i zCas) - 1)
def bitOf (v : Value) : Nat := match v with | .bool true => 1 | _ => 0

set_option maxHeartbeats 4000000 in
theorem FreeFrom_any (vb vl vp : Value) (bays : List BayD) (list : List CasD) (pl : List Int) (bay t : Int) (w : World) (hb : RdBayDs w vb bays) (ob : okBayDs bays) (hl : RdCasDs w vl list) (ol : okCasDs list) (hp : Ints w vp pl) :
    Calls Try.prog 13 #[vb, vl, vp, .int .i64 bay, .int .i64 t] w fun e w' => ∃ f c : Int, e = .returned (.tuple #[.int .i64 f, .int .i64 c]) ∧ (c ≠ 0 → f = 0) ∧ (c = 0 → CassOk list ∧ pl.length = list.length ∧ t ≤ f ∧ ∀ i, i < list.length → quietAt list pl bay f i) ∧ Below w.heap.size w w' := by
  have P1 := ValidBays_any vb bays w hb ob
  obtain ⟨a1, c1, rfl, m1⟩ := hb.form'
  obtain ⟨a2, c2, rfl, m2⟩ := hl.form'
  obtain ⟨a3, c3, rfl, q1, q2, _⟩ := id hp
  unfold maxLen at m1 m2 q2
  cases hv : baysB bays
  · rw [hv] at P1
    clear hv
    go_enter Try.func13, Try.ntmps13
    go_wp2_with fail
    refine P1.mono ?_
    rintro e w1 ⟨rfl, hb1⟩
    go_wp2
    go_ret2
    exact ⟨0, 1, rfl, fun _ => rfl, (fun h => by cases h), hb1⟩
  rw [hv] at P1
  have HB := Lib.hid (baysB_iff.1 hv)
  clear hv
  cases hc : cassB list
  · have HC := Lib.hid hc; clear hc
    go_enter Try.func13, Try.ntmps13
    go_wp2_with fail
    refine P1.mono ?_
    rintro e w1 ⟨rfl, hb1⟩
    go_wp2_with fail
    refine (ValidCastings_any _ list _ (hl.mono hb1) ol).mono ?_
    rintro e w2 ⟨rfl, hb2⟩
    rw [HC.out]
    go_wp2
    go_ret2
    exact ⟨0, 1, rfl, fun _ => rfl, (fun h => by cases h), hb1.trans (hb2.mono hb1.size)⟩
  have HC := Lib.hid (cassB_iff.1 hc)
  have HCB := Lib.hid hc
  clear hc
  have HOK := Lib.hid HC.out.mem
  by_cases hpos : PosOk bays list pl
  · have HP := Lib.hid hpos
    have HLEN := Lib.hid hpos.1
    clear hpos
    obtain ⟨r1, hr1⟩ : ∃ r, r = decide (0 ≤ bay ∧ bay ≤ (bays.length : Int) - 1) := ⟨_, rfl⟩
    obtain ⟨r2, hr2⟩ : ∃ r, r = decide (0 ≤ t ∧ t ≤ 1000000) := ⟨_, rfl⟩
    have R1 := Lib.hid hr1; have R2 := Lib.hid hr2; clear hr1 hr2
    have wr1 : IntKind.i64.wrap ((bays.length : Int) - 1) = (bays.length : Int) - 1 := IntWalk.i64_in _ (by omega)
    go_enter Try.func13, Try.ntmps13
    go_wp2_with fail
    refine P1.mono ?_
    rintro e w1 ⟨rfl, hb1⟩
    go_wp2_with fail
    refine (ValidCastings_any _ list _ (hl.mono hb1) ol).mono ?_
    rintro e w2 ⟨rfl, hb2⟩
    have hbw2 := hb1.trans (hb2.mono hb1.size)
    clear hb2
    rw [HCB.out]
    go_wp2_with fail
    refine (arePossible_any true _ _ _ bays list pl _ (hb.mono hbw2) (hl.mono hbw2) (hp.mono hbw2) HOK.out HB.out.len ⟨fun _ => HP.out, fun _ => rfl⟩).mono ?_
    rintro e w3 ⟨rfl, hb3⟩
    have hbw3 := hbw2.trans (hb3.mono hbw2.size)
    clear hb3 hbw2 hb1
    go_wp2_with fail
    refine (sizeB_any _ _ _ _).mono ?_
    rintro e w4 ⟨rfl, rfl⟩
    go_wp2_with fail
    refine (within_any r1 _ _ _ _ R1.out).mono ?_
    rintro e w5 ⟨rfl, rfl⟩
    cases r1
    · go_wp2
      go_ret2
      exact ⟨0, 2, rfl, fun _ => rfl, (fun h => by cases h), hbw3⟩
    go_wp2_with fail
    refine (isMinute_any r2 t _ R2.out).mono ?_
    rintro e w6 ⟨rfl, rfl⟩
    cases r2
    · go_wp2
      go_ret2
      exact ⟨0, 2, rfl, fun _ => rfl, (fun h => by cases h), hbw3⟩
    have ht : 0 ≤ t ∧ t ≤ 1000000 := of_decide_eq_true R2.out.symm
    obtain ⟨ht0, ht1⟩ := ht
    go_wp2_with fail
    go_loopw [12, 4] (fun cv tv wr => ∃ (c : Bool) (u : Int), cv = .bool c ∧ tv = .int .i64 u ∧ t ≤ u ∧ u ≤ 2000000 ∧ (c = false → ∀ i, i < list.length → quietAt list pl bay u i) ∧ Below w.heap.size w wr) (fun cv tv _ => 2 * (3000000 - (intOf tv).toNat) + bitOf cv)
    case atStart => exact ⟨true, t, rfl, rfl, Int.le_refl _, by omega, (fun h => by cases h), hbw3⟩
    case round =>
      obtain ⟨c, u, rfl, rfl, hu0, hu1, hq, hbw⟩ := hrel
      have HQ := Lib.hid hq; clear hq
      cases c
      · clear hbw3
        go_wp2
        go_ret2
        exact ⟨u, 0, rfl, (fun h => absurd rfl h), fun _ => ⟨HC.out, HLEN.out, hu0, HQ.out (by simp)⟩, hbw⟩
      · clear hbw3
        obtain ⟨wo, rfl⟩ : ∃ wo : World, wo = wr := ⟨_, rfl⟩
        go_wp2_with fail
        go_loopw [45, 12, 4] (fun iv cv tv wi => ∃ (i : Nat) (c : Bool) (s : Int), i ≤ list.length ∧ iv = .int .i64 i ∧ cv = .bool c ∧ tv = .int .i64 s ∧ u ≤ s ∧ s ≤ 2000000 ∧ (c = false → s = u ∧ ∀ j, j < i → quietAt list pl bay u j) ∧ (c = true → u < s) ∧ Below w.heap.size w wi) (fun iv _ _ _ => list.length - (intOf iv).toNat)
        case atStart => exact ⟨0, false, u, Nat.zero_le _, by go_num, rfl, rfl, Int.le_refl _, hu1, (fun _ => ⟨rfl, fun j hj => absurd hj (by omega)⟩), (fun h => by cases h), hbw⟩
        case round =>
          obtain ⟨i, c, s, hi, rfl, rfl, rfl, hs0, hs1, hcf', hct', hbi⟩ := hrel
          have HF := Lib.hid hcf'; have HT := Lib.hid hct'; clear hcf' hct'
          by_cases hlt : i < list.length
          · have hlt2 : i < pl.length := by have := HLEN.out; omega
            obtain ⟨b3, o3, rfl, cp⟩ := (hp.mono hbi).cells (by simp; omega)
            have p0 : wr.cell? ⟨b3, o3 + i, none⟩ = some (.int .i64 pl[i]) := cp i _ (by simp [hlt2])
            have lp := World.block_lt_of_cell? wr _ p0
            clear cp
            obtain ⟨b4, o4, rfl, l4, x0, x1, x2, x3, x4⟩ := (hl.mono hbi).at hlt
            have hsb := strip_bd (HOK.out _ (List.getElem_mem hlt))
            obtain ⟨o, ho⟩ : ∃ o, o = stripV list[i] := ⟨_, rfl⟩
            rw [← ho] at hsb
            have HO := Lib.hid ho; clear ho
            have wr2 : IntKind.i64.wrap (o - 1) = o - 1 := IntWalk.i64_in _ (by omega)
            have hqd : quietAt list pl bay u i ↔ (pl[i] = bay → ¬ (list[i].since ≤ u ∧ u ≤ o - 1)) := by
              unfold quietAt; rw [getD_int hlt2, getD_cas hlt, HO.out]
            have HQD := Lib.hid hqd; clear hqd
            have l5 : b4 < wr.heap.size + 1 := by omega
            have l6 : b3 < wr.heap.size + 1 := by simp only at lp; omega
            by_cases g1 : pl[i] = bay
            · have d1 : (pl[i] == bay) = true := by simpa using g1
              by_cases g2 : list[i].since ≤ s ∧ s ≤ o - 1
              · have HW := Lib.hid (yesB g2)
                have hos : s < o := by omega
                clear g1 g2
                go_wp2_with fail
                refine wp_region_ord [(0, true), (1, true), (2, true), (3, true), (4, true), (5, true), (6, true), (7, true), (8, true), (9, true), (10, true), (11, false), (12, true), (13, false), (14, true)] (none) (by kernel_rfl) (by kernel_rfl) ?_
                (repeat (with_reducible refine wpOrd_soft (fun K hK => ?_); simp only [List.getElem?_toArray, List.getElem?_cons_zero, List.getElem?_cons_succ]; first | (go_simp; refine hK _ ?_) | (simp only [undef]; go_simp; refine hK _ ?_); clear hK K))
                (with_reducible refine wpOrd_hard ?_; simp only [List.getElem?_toArray, List.getElem?_cons_zero, List.getElem?_cons_succ])
                go_wp2_with fail
                refine (stripTime_any o list[i] _ (HOK.out _ (List.getElem_mem hlt)) HO.out).mono ?_
                rintro e w1 ⟨rfl, hb1⟩
                have hb1 := undrew hb1
                go_wp2_with fail
                refine ⟨grown_of_below hb1, ?_⟩
                (repeat (with_reducible refine wpOrd_soft (fun K hK => ?_); simp only [List.getElem?_toArray, List.getElem?_cons_zero, List.getElem?_cons_succ]; first | (go_simp; refine hK _ ?_) | (simp only [undef]; go_simp; refine hK _ ?_); clear hK K))
                (with_reducible refine wpOrd_hard ?_; simp only [List.getElem?_toArray, List.getElem?_cons_zero, List.getElem?_cons_succ])
                go_wp2_with fail
                refine (within_any true _ _ _ _ HW.out).mono ?_
                rintro e w2 ⟨rfl, rfl⟩
                go_wp2_with fail
                refine ⟨grown_of_below hb1, ?_⟩
                (repeat (with_reducible refine wpOrd_soft (fun K hK => ?_); simp only [List.getElem?_toArray, List.getElem?_cons_zero, List.getElem?_cons_succ]; first | (go_simp; refine hK _ ?_) | (simp only [undef]; go_simp; refine hK _ ?_); clear hK K))
                (with_reducible refine wpOrd_nil ?_); refine NoPanic.normal ?_
                have hbw2 : Below w.heap.size w w2 := hbi.trans ((Below.trans (by (repeat (first | with_reducible exact Below.refl _ _ | with_reducible exact hbw | (with_reducible refine Below.setCell ?_ ?_ _; rotate_left; · first | exact Nat.le_refl _ | omega | (simp; done) | (simp; omega)) | (with_reducible refine Below.alloc ?_ ?_ _; rotate_left; · first | exact Nat.le_refl _ | omega | (simp; done) | (simp; omega)) | with_reducible refine below_drewN ?_ _ | with_reducible refine Below.drew ?_))) (hb1.mono (by simp))).mono hbi.size)
                have hB5 := Box.alloc wr [.string list[i].bell, .int .i64 list[i].radius, .int .i64 list[i].depth, .int .i64 list[i].thick, .int .i64 list[i].since] 41 _ rfl
                have hB5 := hB5.step hb1 (by simp)
                have y0 := hB5.at' 0 _ rfl
                have y1 := hB5.at' 1 _ rfl
                have y2 := hB5.at' 2 _ rfl
                have y3 := hB5.at' 3 _ rfl
                have y4 := hB5.at' 4 _ rfl
                have ly := hB5.lt
                clear hB5 p0 x0 x1 x2 x3 x4 hb1
                go_wp2_with fail
                refine (stripTime_any o list[i] _ (HOK.out _ (List.getElem_mem hlt)) HO.out).mono ?_
                rintro e w5 ⟨rfl, hb5⟩
                have hbw5 := hbw2.trans (hb5.mono hbw2.size)
                clear y0 y1 y2 y3 y4 hb5
                go_wp2
                go_roundw
                case rel => exact ⟨i + 1, true, o, by omega, by go_num, rfl, rfl, by omega, by omega, (fun h => by cases h), fun _ => by omega, hbw5⟩
                case measure => simp [intOf]; omega
              · have HW := Lib.hid (noB g2)
                have HN := Lib.hid g2
                clear g1 g2
                go_wp2_with fail
                refine wp_region_ord [(0, true), (1, true), (2, true), (3, true), (4, true), (5, true), (6, true), (7, true), (8, true), (9, true), (10, true), (11, false), (12, true), (13, false), (14, true)] (none) (by kernel_rfl) (by kernel_rfl) ?_
                (repeat (with_reducible refine wpOrd_soft (fun K hK => ?_); simp only [List.getElem?_toArray, List.getElem?_cons_zero, List.getElem?_cons_succ]; first | (go_simp; refine hK _ ?_) | (simp only [undef]; go_simp; refine hK _ ?_); clear hK K))
                (with_reducible refine wpOrd_hard ?_; simp only [List.getElem?_toArray, List.getElem?_cons_zero, List.getElem?_cons_succ])
                go_wp2_with fail
                refine (stripTime_any o list[i] _ (HOK.out _ (List.getElem_mem hlt)) HO.out).mono ?_
                rintro e w1 ⟨rfl, hb1⟩
                have hb1 := undrew hb1
                go_wp2_with fail
                refine ⟨grown_of_below hb1, ?_⟩
                (repeat (with_reducible refine wpOrd_soft (fun K hK => ?_); simp only [List.getElem?_toArray, List.getElem?_cons_zero, List.getElem?_cons_succ]; first | (go_simp; refine hK _ ?_) | (simp only [undef]; go_simp; refine hK _ ?_); clear hK K))
                (with_reducible refine wpOrd_hard ?_; simp only [List.getElem?_toArray, List.getElem?_cons_zero, List.getElem?_cons_succ])
                go_wp2_with fail
                refine (within_any false _ _ _ _ HW.out).mono ?_
                rintro e w2 ⟨rfl, rfl⟩
                go_wp2_with fail
                refine ⟨grown_of_below hb1, ?_⟩
                (repeat (with_reducible refine wpOrd_soft (fun K hK => ?_); simp only [List.getElem?_toArray, List.getElem?_cons_zero, List.getElem?_cons_succ]; first | (go_simp; refine hK _ ?_) | (simp only [undef]; go_simp; refine hK _ ?_); clear hK K))
                (with_reducible refine wpOrd_nil ?_); refine NoPanic.normal ?_
                have hbw2 : Below w.heap.size w w2 := hbi.trans ((Below.trans (by (repeat (first | with_reducible exact Below.refl _ _ | with_reducible exact hbw | (with_reducible refine Below.setCell ?_ ?_ _; rotate_left; · first | exact Nat.le_refl _ | omega | (simp; done) | (simp; omega)) | (with_reducible refine Below.alloc ?_ ?_ _; rotate_left; · first | exact Nat.le_refl _ | omega | (simp; done) | (simp; omega)) | with_reducible refine below_drewN ?_ _ | with_reducible refine Below.drew ?_))) (hb1.mono (by simp))).mono hbi.size)
                go_wp2
                go_roundw
                case rel => exact ⟨i + 1, c, s, by omega, by go_num, rfl, rfl, hs0, hs1, (fun h => ⟨(HF.out h).1, lt_step (HF.out h).2 (HQD.out.2 fun _ => by rw [← (HF.out h).1]; exact HN.out)⟩), HT.out, hbw2⟩
                case measure => simp [intOf]; omega
            · have d1 : (pl[i] == bay) = false := by simpa using g1
              have HG := Lib.hid g1
              clear g1
              go_wp2_with fail
              refine wp_region_ord [(0, true), (1, true), (2, true), (3, true), (4, true), (5, true), (6, true), (7, true), (8, true), (9, true), (10, true), (11, false), (12, true), (13, false), (14, true)] (none) (by kernel_rfl) (by kernel_rfl) ?_
              (repeat (with_reducible refine wpOrd_soft (fun K hK => ?_); simp only [List.getElem?_toArray, List.getElem?_cons_zero, List.getElem?_cons_succ]; first | (go_simp; refine hK _ ?_) | (simp only [undef]; go_simp; refine hK _ ?_); clear hK K))
              (with_reducible refine wpOrd_skip ?_ (fun K hK => ?_); exact grown_of_below (by (repeat (first | with_reducible exact Below.refl _ _ | with_reducible exact hbw | (with_reducible refine Below.setCell ?_ ?_ _; rotate_left; · first | exact Nat.le_refl _ | omega | (simp; done) | (simp; omega)) | (with_reducible refine Below.alloc ?_ ?_ _; rotate_left; · first | exact Nat.le_refl _ | omega | (simp; done) | (simp; omega)) | with_reducible refine below_drewN ?_ _ | with_reducible refine Below.drew ?_))); simp only [List.getElem?_toArray, List.getElem?_cons_zero, List.getElem?_cons_succ]; first | (go_simp; refine hK _ ?_) | (simp only [undef]; go_simp; refine hK _ ?_); clear hK K)
              (repeat (with_reducible refine wpOrd_soft (fun K hK => ?_); simp only [List.getElem?_toArray, List.getElem?_cons_zero, List.getElem?_cons_succ]; first | (go_simp; refine hK _ ?_) | (simp only [undef]; go_simp; refine hK _ ?_); clear hK K))
              (with_reducible refine wpOrd_skip ?_ (fun K hK => ?_); exact grown_of_below (by (repeat (first | with_reducible exact Below.refl _ _ | with_reducible exact hbw | (with_reducible refine Below.setCell ?_ ?_ _; rotate_left; · first | exact Nat.le_refl _ | omega | (simp; done) | (simp; omega)) | (with_reducible refine Below.alloc ?_ ?_ _; rotate_left; · first | exact Nat.le_refl _ | omega | (simp; done) | (simp; omega)) | with_reducible refine below_drewN ?_ _ | with_reducible refine Below.drew ?_))); simp only [List.getElem?_toArray, List.getElem?_cons_zero, List.getElem?_cons_succ]; first | (go_simp; refine hK _ ?_) | (simp only [undef]; go_simp; refine hK _ ?_); clear hK K)
              (repeat (with_reducible refine wpOrd_soft (fun K hK => ?_); simp only [List.getElem?_toArray, List.getElem?_cons_zero, List.getElem?_cons_succ]; first | (go_simp; refine hK _ ?_) | (simp only [undef]; go_simp; refine hK _ ?_); clear hK K))
              (with_reducible refine wpOrd_nil ?_); refine NoPanic.normal ?_
              have hbw2 : Below w.heap.size w (wr.alloc (.cells #[.string list[i].bell, .int .i64 list[i].radius, .int .i64 list[i].depth, .int .i64 list[i].thick, .int .i64 list[i].since] 41)).drew := hbi.trans (Below.mono (show Below wr.heap.size wr _ by (repeat (first | with_reducible exact Below.refl _ _ | with_reducible exact hbw | (with_reducible refine Below.setCell ?_ ?_ _; rotate_left; · first | exact Nat.le_refl _ | omega | (simp; done) | (simp; omega)) | (with_reducible refine Below.alloc ?_ ?_ _; rotate_left; · first | exact Nat.le_refl _ | omega | (simp; done) | (simp; omega)) | with_reducible refine below_drewN ?_ _ | with_reducible refine Below.drew ?_))) hbi.size)
              go_wp2
              go_roundw
              case rel => exact ⟨i + 1, c, s, by omega, by go_num, rfl, rfl, hs0, hs1, (fun h => ⟨(HF.out h).1, lt_step (HF.out h).2 (HQD.out.2 fun h' => absurd h' HG.out)⟩), HT.out, hbw2⟩
              case measure => simp [intOf]; omega
          · obtain rfl : i = list.length := by omega
            go_wp2
            go_roundw
            case rel => exact ⟨c, s, rfl, rfl, by omega, hs1, (fun h j hj => by rw [(HF.out h).1]; exact (HF.out h).2 j hj), hbi⟩
            case measure =>
              cases c
              · have := (HF.out (by simp)).1
                simp [intOf, bitOf]; omega
              · have := HT.out (by simp)
                simp [intOf, bitOf]; omega
  · have HP := Lib.hid hpos
    clear hpos
    go_enter Try.func13, Try.ntmps13
    go_wp2_with fail
    refine P1.mono ?_
    rintro e w1 ⟨rfl, hb1⟩
    go_wp2_with fail
    refine (ValidCastings_any _ list _ (hl.mono hb1) ol).mono ?_
    rintro e w2 ⟨rfl, hb2⟩
    have hbw2 := hb1.trans (hb2.mono hb1.size)
    clear hb2
    rw [HCB.out]
    go_wp2_with fail
    refine (arePossible_any false _ _ _ bays list pl _ (hb.mono hbw2) (hl.mono hbw2) (hp.mono hbw2) HOK.out HB.out.len ⟨(fun h => by cases h), fun h => absurd h HP.out⟩).mono ?_
    rintro e w3 ⟨rfl, hb3⟩
    go_wp2
    go_ret2
    exact ⟨0, 6, rfl, fun _ => rfl, (fun h => by cases h), hbw2.trans (hb3.mono hbw2.size)⟩

/-- The numbers so far, each once. -/
structure Seen (xs s : List Int) : Prop where
  mem : ∀ x, x ∈ s ↔ x ∈ xs
  len : s.length = kd xs
theorem seen_old {xs s : List Int} {x : Int} (h : Seen xs s) (hx : x ∈ s) : Seen (xs ++ [x]) s := by
  refine ⟨fun y => ?_, ?_⟩
  · rw [h.mem, List.mem_append, List.mem_singleton]
    refine ⟨Or.inl, ?_⟩
    rintro (g | rfl)
    · exact g
    · exact (h.mem _).1 hx
  · rw [h.len]
    refine Nat.le_antisymm (kd_sub fun y hy => List.mem_append_left _ hy) (kd_sub fun y hy => ?_)
    rcases List.mem_append.1 hy with g | g
    · exact g
    · rw [List.mem_singleton.1 g]; exact (h.mem x).1 hx
theorem seen_new {xs s : List Int} {x : Int} (h : Seen xs s) (hx : ¬ x ∈ s) : Seen (xs ++ [x]) (s ++ [x]) := by
  refine ⟨fun y => ?_, ?_⟩
  · rw [List.mem_append, List.mem_append, h.mem]
  · rw [List.length_append, List.length_singleton, h.len, kd_fresh fun g => hx ((h.mem x).2 g)]

set_option maxHeartbeats 2000000 in
theorem b10Kinds_any (v : Value) (xs : List Int) (w : World) (h : Ints w v xs) (hl : xs.length ≤ 1000) :
    Calls Try.prog 11 #[v] w fun e w' => e = .returned (.int .i64 (kd xs)) ∧ Below w.heap.size w w' := by
  obtain ⟨a, ca, rfl, q1, q2, _⟩ := id h
  unfold maxLen at q2
  go_enter Try.func11, Try.ntmps11
  go_wp2_with fail
  go_loopw [3, 4] (fun sv iv wr => ∃ (i : Nat) (s : List Int) (a' : Option Addr) (c' : Nat), i ≤ xs.length ∧ iv = .int .i64 i ∧ sv = .slice a' s.length c' ∧ s.length ≤ i ∧ Seen (xs.take i) s ∧ wr.ownsRow w.heap.size 2 1 (.slice a' s.length c') s.length (s.map (Value.int .i64)) ∧ Below w.heap.size w wr) (fun _ iv _ => xs.length - (intOf iv).toNat)
  case atStart => exact ⟨0, [], _, _, Nat.zero_le _, by go_num, rfl, Nat.le_refl _, ⟨fun x => by simp, rfl⟩, owns_empty w 2 1 _ (Nat.le_refl _), by (repeat (first | with_reducible exact Below.refl _ _ | with_reducible exact hbw | (with_reducible refine Below.setCell ?_ ?_ _; rotate_left; · first | exact Nat.le_refl _ | omega | (simp; done) | (simp; omega)) | (with_reducible refine Below.alloc ?_ ?_ _; rotate_left; · first | exact Nat.le_refl _ | omega | (simp; done) | (simp; omega)) | with_reducible refine below_drewN ?_ _ | with_reducible refine Below.drew ?_))⟩
  case round =>
    obtain ⟨i, s, a', c', hi, rfl, rfl, hsi, hse, ho, hb⟩ := hrel
    have HSE := Lib.hid hse; have HO := Lib.hid ho
    have HI := Lib.hid (show Ints wr (.slice a' s.length c') s from Sl.of_owns ho)
    clear hse ho
    by_cases hlt : i < xs.length
    · obtain ⟨b1, o1, rfl, cp⟩ := (h.mono hb).cells (by simp; omega)
      have p0 : wr.cell? ⟨b1, o1 + i, none⟩ = some (.int .i64 xs[i]) := cp i _ (by simp [hlt])
      have P0 := Lib.hid p0
      have HTK := Lib.hid (show xs.take (i + 1) = xs.take i ++ [xs[i]] from List.take_succ_eq_append_getElem hlt)
      clear cp
      obtain ⟨x, hx⟩ : ∃ x, x = xs[i] := ⟨_, rfl⟩
      rw [← hx] at HTK P0 p0
      clear hx
      obtain ⟨wo, rfl⟩ : ∃ wo : World, wo = wr := ⟨_, rfl⟩
      clear p0
      go_wp2_with fail
      go_loopw [5, 6] (fun fv kv wi => ∃ (k : Nat) (f : Bool) (n : Nat), k ≤ s.length ∧ kv = .int .i64 k ∧ fv = .bool f ∧ (f = true ↔ x ∈ s.take k) ∧ wi = wo.drewN n) (fun _ kv _ => s.length - (intOf kv).toNat)
      case atStart => exact ⟨0, false, 0, Nat.zero_le _, by go_num, rfl, by simp, rfl⟩
      case round =>
        obtain ⟨k, f, n, hk, rfl, rfl, hf', rfl⟩ := hrel
        have HF := Lib.hid hf'; clear hf'
        by_cases hltk : k < s.length
        · obtain ⟨b2, o2, rfl, cp⟩ := HI.out.cells (by simp; omega)
          have p1 : wo.cell? ⟨b2, o2 + k, none⟩ = some (.int .i64 s[k]) := cp k _ (by simp [hltk])
          have p0 := P0.out
          clear cp
          have HM := Lib.hid (show x ∈ s.take (k + 1) ↔ x ∈ s.take k ∨ x = s[k] by rw [List.take_succ_eq_append_getElem hltk, List.mem_append, List.mem_singleton])
          cases f
          · by_cases g : s[k] = x
            · have d1 : (s[k] == x) = true := by simpa using g
              go_wp2_with fail
              go_quiet (fail)
              go_wp2
              go_roundw
              case rel => exact ⟨k + 1, true, n + nq, by omega, by go_num, rfl, ⟨fun _ => HM.out.2 (.inr g.symm), fun _ => rfl⟩, by first | rfl | rw [World.drewN_drewN]⟩
              case measure => simp [intOf]; omega
            · have d1 : (s[k] == x) = false := by simpa using g
              go_wp2_with fail
              go_quiet (fail)
              go_wp2
              go_roundw
              case rel => exact ⟨k + 1, false, n + nq, by omega, by go_num, rfl, ⟨(fun h => by cases h), fun h => (HM.out.1 h).elim (fun h => absurd (HF.out.2 h) (by simp)) fun h => absurd h.symm g⟩, by first | rfl | rw [World.drewN_drewN]⟩
              case measure => simp [intOf]; omega
          · go_wp2_with fail
            go_quiet (fail)
            go_wp2
            go_roundw
            case rel => exact ⟨k + 1, true, n + nq, by omega, by go_num, rfl, ⟨fun _ => HM.out.2 (.inl (HF.out.1 (by simp))), fun _ => rfl⟩, by first | rfl | rw [World.drewN_drewN]⟩
            case measure => simp [intOf]; omega
        · obtain rfl : k = s.length := by omega
          have p0 : (wo.drewN n).cell? ⟨b1, o1 + i, none⟩ = some (.int .i64 x) := by simpa using P0.out
          have hOn := owns_mono HO.out (Below.drawN n)
          have HF2 := Lib.hid (show f = true ↔ x ∈ s by have := HF.out; rwa [List.take_length] at this)
          obtain ⟨wn, hwn⟩ : ∃ wn, wn = wo.drewN n := ⟨_, rfl⟩
          have hbn : Below w.heap.size w wn := by rw [hwn]; exact hb.trans ((Below.drawN n).mono hb.size)
          rw [← hwn] at p0 hOn ⊢
          clear hwn
          cases f
          · have hS := seen_new HSE.out (x := x) (fun h => absurd (HF2.out.2 h) (by simp))
            rw [← HTK.out] at hS
            have HS := Lib.hid hS; clear hS
            go_wp2_with (at_builtin; refine append_one rfl _ _ 28 rfl w.heap.size 2 (.int .i64 0) 1 8 Try.underlying28 info_int rfl (by decide) _ s.length _ rfl hOn [.int .i64 x] rfl (by simp [Value.oneCell']) rfl (by omega) (by decide) hbn.size ?_)
            intro a4 k4 w4 ho4 hg4 hb4
            have hb5 := hbn.trans hb4
            clear hg4 hb4 hOn hbn p0
            go_wp2
            go_roundw
            case rel => exact ⟨i + 1, s ++ [x], a4, k4, by omega, by go_num, by simp, by simp; omega, HS.out, by simpa using ho4, hb5⟩
            case measure => simp [intOf]; omega
          · have hS := seen_old HSE.out (x := x) (HF2.out.1 (by simp))
            rw [← HTK.out] at hS
            have HS := Lib.hid hS; clear hS
            go_wp2
            go_roundw
            case rel => exact ⟨i + 1, s, a', c', by omega, by go_num, rfl, by omega, HS.out, hOn, hbn⟩
            case measure => simp [intOf]; omega
    · obtain rfl : i = xs.length := by omega
      have HK := Lib.hid (show s.length = kd xs by have := HSE.out.len; rwa [List.take_length] at this)
      go_wp2
      go_ret
      exact ⟨by rw [HK.out]; rfl, hb⟩

end Go.Proofs.Yteaijhmgfddjiaa
