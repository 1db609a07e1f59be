/- Clashes, the least clearance and the clearance of two. -/
import Derived.Test.YteaijhmgfddjiaaDoorRoot
set_option linter.unusedSimpArgs false
set_option linter.unnecessarySimpa false
set_option linter.unusedVariables false
set_option maxRecDepth 100000
namespace Go.Proofs.YteaijhmgfddjiaaDoor
open Go.RowKit

theorem getD_plc {l : List PlcD} {k : Nat} (h : k < l.length) : l.getD k zPlc = l[k] := by rw [List.getD_eq_getElem?_getD, List.getElem?_eq_getElem h]; rfl
theorem info_sl : (Tryd.prog.info? 52).map (fun i => (i.zero, i.size, i.bytes)) = some (some (.slice none 0 0), 1, 24) := by kernel_rfl

set_option maxHeartbeats 2000000 in
theorem clashes_any (v : Value) (l : List PlcD) (gap : Int) (w : World) (h : RdPlcDs w v l) (ok : PlcsOk l) :
    Calls Tryd.prog 18 #[v, .int .i64 gap] w fun e w' => ∃ a c, e = .returned (.slice a (cntI l gap l.length) c) ∧ Below w.heap.size w w' := by
  obtain ⟨a0, c0, rfl, m0⟩ := h.form'
  unfold maxLen at m0
  have hl24 := ok.len
  have OK := Lib.hid ok; clear ok
  go_enter Tryd.func18, Tryd.ntmps18
  go_wp2_with fail
  go_loopw [5, 10] (fun pv iv wr => ∃ (i : Nat) (cs : List Value) (a : Option Addr) (c : Nat), pv = .slice a cs.length c ∧ iv = .int .i64 i ∧ i ≤ l.length ∧ cs.length = cntI l gap i ∧ wr.ownsRow w.heap.size 52 1 (.slice a cs.length c) cs.length cs ∧ Below w.heap.size w wr) (fun _ iv _ => l.length - (intOf iv).toNat)
  case atStart => exact ⟨0, [], none, 0, rfl, by go_num, Nat.zero_le _, rfl, owns_nil _ _ _ _, Below.refl _ _⟩
  case round =>
    obtain ⟨i, cs, a, c, rfl, rfl, hi, hcs, ho, hb⟩ := hrel
    have HO := Lib.hid ho; have HCS := Lib.hid hcs
    clear ho hcs
    by_cases hlt : i < l.length
    · go_wp2_with fail
      obtain ⟨wo, rfl⟩ : ∃ wo : World, wo = wr := ⟨_, rfl⟩
      go_loopw [5, 7] (fun pv jv wi => ∃ (j : Nat) (ds : List Value) (a : Option Addr) (c : Nat), pv = .slice a ds.length c ∧ jv = .int .i64 (j : Int) ∧ i < j ∧ j ≤ l.length ∧ ds.length = cntI l gap i + cntJ l gap i j ∧ wi.ownsRow w.heap.size 52 1 (.slice a ds.length c) ds.length ds ∧ Below w.heap.size w wi) (fun _ jv _ => l.length - (intOf jv).toNat)
      case atStart => exact ⟨i + 1, cs, a, c, rfl, by go_num, Nat.lt_succ_self _, hlt, by rw [HCS.out, cntJ_low l gap i (i + 1) (Nat.le_refl _)]; rfl, HO.out, hb⟩
      case round =>
        clear HO HCS hb
        obtain ⟨j, ds, a, c, rfl, rfl, hij, hj, hds, ho, hb⟩ := hrel
        have HO := Lib.hid ho; have HDS := Lib.hid hds
        have hdl : ds.length ≤ 1000 := by
          have h1 := cntI_le l gap i
          have h2 := cntJ_le l gap i j
          have h3 : i * l.length ≤ 24 * 24 := Nat.mul_le_mul (by omega) hl24
          omega
        clear ho hds
        by_cases hltj : j < l.length
        · have hz := hb.size
          obtain ⟨q, hq⟩ : ∃ q, q = clr l[i] l[j] := ⟨_, rfl⟩
          have HQ := Lib.hid hq
          have HG := Lib.hid (show hit l gap i j ↔ q < gap by
            unfold hit; rw [getD_plc hlt, getD_plc hltj, ← hq]
            exact ⟨fun h => h.2, fun h => ⟨hij, h⟩⟩)
          clear hq
          obtain ⟨b1, o1, rfl, m1, x0, x1, x2, x3, x4⟩ := (h.mono hb).at hlt
          obtain ⟨b2, o2, e2, m2, y0, y1, y2, y3, y4⟩ := (h.mono hb).at hltj
          simp only [Option.some.injEq, Addr.mk.injEq, and_true] at e2
          obtain ⟨rfl, rfl⟩ := e2
          by_cases g : q < gap
          · have dg : decide (q < gap) = true := decide_eq_true g
            have HN := Lib.hid (cntJ_yes (HG.out.2 g))
            go_wp2_with fail
            refine wp_region_ord [(0, true), (1, true), (2, true), (3, true), (4, true), (5, true), (6, true), (7, true), (9, true), (8, false), (10, true)] (none) (by kernel_rfl) (by kernel_rfl) ?_
            (repeat (with_reducible refine wpOrd_soft (fun K hK => ?_); simp only [List.getElem?_toArray, List.getElem?_cons_zero, List.getElem?_cons_succ]; first | (go_simp; refine hK _ ?_) | (simp only [undef]; go_simp; refine hK _ ?_); clear hK K))
            (with_reducible refine wpOrd_hard ?_; simp only [List.getElem?_toArray, List.getElem?_cons_zero, List.getElem?_cons_succ])
            go_wp2_with fail
            refine (clearance_any q l[i] l[j] _ (OK.out.ok hlt) (OK.out.ok hltj) HQ.out).mono ?_
            rintro e w2 ⟨rfl, hb1⟩
            have hb1 := undrew hb1
            go_wp2_with fail
            refine ⟨grown_of_below hb1, ?_⟩
            (repeat (with_reducible refine wpOrd_soft (fun K hK => ?_); simp only [List.getElem?_toArray, List.getElem?_cons_zero, List.getElem?_cons_succ]; first | (go_simp; refine hK _ ?_) | (simp only [undef]; go_simp; refine hK _ ?_); clear hK K))
            (with_reducible refine wpOrd_nil ?_); refine NoPanic.normal ?_
            have hb2 := hb.trans (hb1.mono hz)
            have HO2 := Lib.hid (owns_mono HO.out hb1)
            have HO3 := Lib.hid (owns_mono HO2.out (belowA w2 (.cells #[.int .i64 (i : Int), .int .i64 (j : Int)] 2)))
            have hz2 := hb2.size
            have HBA := Lib.hid (hb2.trans ((belowA w2 (.cells #[.int .i64 (i : Int), .int .i64 (j : Int)] 2)).mono hz2))
            clear x0 x1 x2 x3 x4 y0 y1 y2 y3 y4 m1 m2 hb1
            go_wp2_with (at_builtin; refine append_one_at rfl _ _ 27 rfl w.heap.size 52 (.slice none 0 0) 1 24 Tryd.underlying27 info_sl rfl (by decide) _ ds.length _ rfl HO3.out [.slice (some ⟨w2.heap.size, 0, none⟩) 2 2] rfl (by simp [Value.oneCell']) (w2.heap.size + 1) (by simp) rfl (by omega) (by decide) (by simp; omega) ?_)
            intro a7 k7 w7 ho7 hg7 hb7 _
            have hb8 := HBA.out.trans hb7
            have HO8 := Lib.hid ho7
            clear ho7 hg7 hb7
            go_wp2
            go_roundw
            case rel => exact ⟨j + 1, ds ++ [.slice (some ⟨w2.heap.size, 0, none⟩) 2 2], a7, k7, by simp, by go_num, by omega, by omega, by rw [List.length_append, List.length_singleton, HDS.out, HN.out, Nat.add_assoc], by simpa using HO8.out, hb8⟩
            case measure => simp [intOf] <;> omega
          · have dg : decide (q < gap) = false := decide_eq_false g
            have HN := Lib.hid (cntJ_no (fun h => g (HG.out.1 h)))
            go_wp2_with fail
            refine wp_region_ord [(0, true), (1, true), (2, true), (3, true), (4, true), (5, true), (6, true), (7, true), (9, true), (8, false), (10, true)] (none) (by kernel_rfl) (by kernel_rfl) ?_
            (repeat (with_reducible refine wpOrd_soft (fun K hK => ?_); simp only [List.getElem?_toArray, List.getElem?_cons_zero, List.getElem?_cons_succ]; first | (go_simp; refine hK _ ?_) | (simp only [undef]; go_simp; refine hK _ ?_); clear hK K))
            (with_reducible refine wpOrd_hard ?_; simp only [List.getElem?_toArray, List.getElem?_cons_zero, List.getElem?_cons_succ])
            go_wp2_with fail
            refine (clearance_any q l[i] l[j] _ (OK.out.ok hlt) (OK.out.ok hltj) HQ.out).mono ?_
            rintro e w2 ⟨rfl, hb1⟩
            have hb1 := undrew hb1
            go_wp2_with fail
            refine ⟨grown_of_below hb1, ?_⟩
            (repeat (with_reducible refine wpOrd_soft (fun K hK => ?_); simp only [List.getElem?_toArray, List.getElem?_cons_zero, List.getElem?_cons_succ]; first | (go_simp; refine hK _ ?_) | (simp only [undef]; go_simp; refine hK _ ?_); clear hK K))
            (with_reducible refine wpOrd_nil ?_); refine NoPanic.normal ?_
            have hb2 := hb.trans (hb1.mono hz)
            have HO2 := Lib.hid (owns_mono HO.out hb1)
            clear x0 x1 x2 x3 x4 y0 y1 y2 y3 y4 m1 m2 hb1
            go_wp2
            go_roundw
            case rel => exact ⟨j + 1, ds, a, c, rfl, by go_num, by omega, by omega, by rw [HDS.out, HN.out], HO2.out, hb2⟩
            case measure => simp [intOf] <;> omega
        · obtain rfl : j = l.length := by omega
          have HE := Lib.hid (show ds.length = cntI l gap (i + 1) from HDS.out)
          go_wp2
          go_roundw
          case rel => exact ⟨i + 1, ds, a, c, rfl, by go_num, by omega, HE.out, HO.out, hb⟩
          case measure => simp [intOf] <;> omega
    · obtain rfl : i = l.length := by omega
      go_wp2
      go_ret
      exact ⟨a, c, by rw [HCS.out]; rfl, hb⟩

set_option maxHeartbeats 1000000 in
theorem ClashesOf_any (v : Value) (l : List PlcD) (gap : Int) (w : World) (h : RdPlcDs w v l) (okv : okPlcDs l) (ok : PlcsOk l) (hg : 0 ≤ gap ∧ gap ≤ 5000) :
    Calls Tryd.prog 7 #[v, .int .i64 gap] w fun e w' => ∃ a c, e = .returned (.tuple #[.slice a (cntI l gap l.length) c, .int .i64 0]) ∧ Below w.heap.size w w' := by
  obtain ⟨n, hn⟩ : ∃ n, n = cntI l gap l.length := ⟨_, rfl⟩
  rw [← hn]
  have HN := Lib.hid hn; clear hn
  have P1 := ValidPlaces_any v l w h okv
  rw [plcsB_iff.2 ok] at P1
  obtain ⟨a0, c0, rfl, m0⟩ := h.form'
  have OK := Lib.hid ok; have HG := Lib.hid (yesB hg)
  clear ok hg
  go_enter Tryd.func7, Tryd.ntmps7
  go_wp2_with fail
  refine P1.mono ?_
  rintro e w1 ⟨rfl, hb1⟩
  go_wp2_with fail
  refine (isSpace_any true gap _ HG.out).mono ?_
  rintro e w2 ⟨rfl, rfl⟩
  go_wp2_with fail
  refine (clashes_any _ l gap _ (h.mono hb1) OK.out).mono ?_
  rintro e w3 ⟨a, c, rfl, hb3⟩
  rw [← HN.out]
  go_wp2
  go_ret2
  exact ⟨a, c, rfl, hb1.trans (hb3.mono hb1.size)⟩

theorem least_start {l : List PlcD} (h : 2 ≤ l.length) : ∃ i j, i < j ∧ j < l.length ∧ clr l[0] l[1] = clr (l.getD i zPlc) (l.getD j zPlc) := ⟨0, 1, by omega, by omega, by rw [getD_plc (by omega), getD_plc (by omega)]⟩
/-- The least of the clearances so far. -/
structure Low (l : List PlcD) (i k : Nat) (m : Int) : Prop where
  le : ∀ a b, a < b → (b < i ∨ b = i ∧ a < k) → m ≤ clr (l.getD a zPlc) (l.getD b zPlc)
  some : ∃ a b, a < b ∧ b < l.length ∧ m = clr (l.getD a zPlc) (l.getD b zPlc)
theorem low_step {l : List PlcD} {i k : Nat} {m q : Int} (h : Low l i k m) (hi : i < l.length) (hk : k < i) (hq : q = clr l[i] l[k]) : Low l i (k + 1) (min m q) := by
  have hq' : q = clr (l.getD k zPlc) (l.getD i zPlc) := by rw [hq, clr_symm, getD_plc hi, getD_plc (by omega)]
  refine ⟨fun a b hab hb => ?_, ?_⟩
  · by_cases e : b = i ∧ a = k
    · obtain ⟨rfl, rfl⟩ := e
      rw [← hq']; omega
    · have := h.le a b hab (by omega); omega
  · by_cases g : m ≤ q
    · obtain ⟨a, b, h1, h2, h3⟩ := h.some
      exact ⟨a, b, h1, h2, by omega⟩
    · exact ⟨k, i, hk, hi, by omega⟩
theorem low_next {l : List PlcD} {i : Nat} {m : Int} (h : Low l i i m) : Low l (i + 1) 0 m := ⟨fun a b hab hb => h.le a b hab (by omega), h.some⟩

set_option maxHeartbeats 2000000 in
theorem LeastClearance_any (v : Value) (l : List PlcD) (w : World) (h : RdPlcDs w v l) (okv : okPlcDs l) (ok : PlcsOk l) :
    Calls Tryd.prog 8 #[v] w fun e w' => ∃ m c : Int, e = .returned (.tuple #[.int .i64 m, .int .i64 c]) ∧ (l.length < 2 → c = 6) ∧ (2 ≤ l.length → c = 0 ∧ Least l m) ∧ Below w.heap.size w w' := by
  have P1 := ValidPlaces_any v l w h okv
  rw [plcsB_iff.2 ok] at P1
  obtain ⟨a0, c0, rfl, m0⟩ := h.form'
  have hl24 := ok.len
  unfold maxLen at m0
  have OK := Lib.hid ok
  clear ok
  by_cases h2 : l.length < 2
  · go_enter Tryd.func8, Tryd.ntmps8
    go_wp2_with fail
    refine P1.mono ?_
    rintro e w1 ⟨rfl, hb1⟩
    go_wp2
    go_ret2
    exact ⟨0, 6, rfl, fun _ => rfl, (fun h => by omega), hb1⟩
  · have h2' : 2 ≤ l.length := by omega
    have h20 : 0 < l.length := by omega
    have h21 : 1 < l.length := by omega
    have h22 : (1 : Int) < (l.length : Int) := by omega
    have HS := Lib.hid (least_start h2')
    go_enter Tryd.func8, Tryd.ntmps8
    go_wp2_with fail
    refine P1.mono ?_
    rintro e w1 ⟨rfl, hbw⟩
    have hz1 := hbw.size
    obtain ⟨q, hq⟩ : ∃ q, q = clr l[0] l[1] := ⟨_, rfl⟩
    have HQ := Lib.hid hq
    clear hq
    obtain ⟨b1, o1, rfl, m1, x0, x1, x2, x3, x4⟩ := (h.mono hbw).at h20
    obtain ⟨b2, o2, e2, m2, y0, y1, y2, y3, y4⟩ := (h.mono hbw).at h21
    simp only [Option.some.injEq, Addr.mk.injEq, and_true] at e2
    obtain ⟨rfl, rfl⟩ := e2
    simp only [Nat.zero_mul, Nat.one_mul, Nat.add_zero] at x0 x1 x2 x3 x4 y0 y1 y2 y3 y4
    go_wp2_with fail
    refine wp_region_ord [(0, true), (1, true), (2, true), (3, true), (4, true), (5, true), (6, false), (7, true)] (none) (by kernel_rfl) (by kernel_rfl) ?_
    (repeat (with_reducible refine wpOrd_soft (fun K hK => ?_); simp only [List.getElem?_toArray, List.getElem?_cons_zero, List.getElem?_cons_succ]; first | (go_simp; refine hK _ ?_) | (simp only [undef]; go_simp; refine hK _ ?_); clear hK K))
    (with_reducible refine wpOrd_hard ?_; simp only [List.getElem?_toArray, List.getElem?_cons_zero, List.getElem?_cons_succ])
    go_wp2_with fail
    refine (clearance_any q l[0] l[1] _ (OK.out.ok h20) (OK.out.ok h21) HQ.out).mono ?_
    rintro e w2 ⟨rfl, hb1⟩
    have hb1 := undrew hb1
    go_wp2_with fail
    refine ⟨grown_of_below hb1, ?_⟩
    (repeat (with_reducible refine wpOrd_soft (fun K hK => ?_); simp only [List.getElem?_toArray, List.getElem?_cons_zero, List.getElem?_cons_succ]; first | (go_simp; refine hK _ ?_) | (simp only [undef]; go_simp; refine hK _ ?_); clear hK K))
    (with_reducible refine wpOrd_nil ?_); refine NoPanic.normal ?_
    have hb2 := hbw.trans (hb1.mono hz1)
    have HL0 := Lib.hid (show Low l 0 0 q from ⟨fun a b hab hb => by omega, by rw [HQ.out]; exact HS.out⟩)
    clear x0 x1 x2 x3 x4 y0 y1 y2 y3 y4 m1 m2 hb1 hbw
    go_wp2_with fail
    go_loopw [24, 4] (fun iv mv wr => ∃ (i : Nat) (m : Int), iv = .int .i64 i ∧ mv = .int .i64 m ∧ i ≤ l.length ∧ Low l i 0 m ∧ Below w.heap.size w wr) (fun iv _ _ => l.length - (intOf iv).toNat)
    case atStart => exact ⟨0, q, by go_num, rfl, Nat.zero_le _, HL0.out, hb2⟩
    case round =>
      clear hb2
      obtain ⟨i, m, rfl, rfl, hi, hlow, hb⟩ := hrel
      have HLO := Lib.hid hlow; clear hlow
      by_cases hlt : i < l.length
      · have hic : i ≤ c0 := by
          obtain ⟨_, _, e, q1, _⟩ := id h
          cases e; omega
        obtain ⟨b1', o1', e1', mm, z0, z1, z2, z3, z4⟩ := (h.mono hb).at hlt
        simp only [Option.some.injEq, Addr.mk.injEq, and_true] at e1'
        obtain ⟨rfl, rfl⟩ := e1'
        have BX := Lib.hid (Box.alloc wr [.string l[i].bell, .int .i64 l[i].x, .int .i64 l[i].y, .int .i64 l[i].z, .int .i64 l[i].reach] 34 wr.heap.size rfl)
        have HBA := Lib.hid (hb.trans ((belowA wr (.cells #[.string l[i].bell, .int .i64 l[i].x, .int .i64 l[i].y, .int .i64 l[i].z, .int .i64 l[i].reach] 34)).mono hb.size))
        go_wp2_with fail
        clear z0 z1 z2 z3 z4 mm
        obtain ⟨H, hH⟩ : ∃ H, H = wr.heap.size := ⟨_, rfl⟩
        generalize wr.alloc (.cells #[.string l[i].bell, .int .i64 l[i].x, .int .i64 l[i].y, .int .i64 l[i].z, .int .i64 l[i].reach] 34) = W at BX HBA ⊢
        rw [← hH] at BX ⊢
        clear hH
        go_loopw [33, 4] (fun kv mv wi => ∃ (k : Nat) (m : Int), kv = .int .i64 k ∧ mv = .int .i64 m ∧ k ≤ i ∧ Low l i k m ∧ Box wi H [.string l[i].bell, .int .i64 l[i].x, .int .i64 l[i].y, .int .i64 l[i].z, .int .i64 l[i].reach] ∧ Below w.heap.size w wi) (fun kv _ _ => i - (intOf kv).toNat)
        case atStart => exact ⟨0, m, by go_num, rfl, Nat.zero_le _, HLO.out, BX.out, HBA.out⟩
        case round =>
          clear BX HBA hb HLO
          obtain ⟨k, m, rfl, rfl, hk, hlow, hbx, hb⟩ := hrel
          have HLO := Lib.hid hlow; clear hlow
          by_cases hltk : k < i
          · have hkl : k < l.length := by omega
            obtain ⟨b2, o2, e2, mm, y0, y1, y2, y3, y4⟩ := (h.mono hb).at hkl
            simp only [Option.some.injEq, Addr.mk.injEq, and_true] at e2
            obtain ⟨rfl, rfl⟩ := e2
            have c0' := hbx.at' 0 _ rfl
            have c1' := hbx.at' 1 _ rfl
            have c2' := hbx.at' 2 _ rfl
            have c3' := hbx.at' 3 _ rfl
            have c4' := hbx.at' 4 _ rfl
            have lx := hbx.lt
            have BX := Lib.hid hbx
            clear hbx
            obtain ⟨q, hq⟩ : ∃ q, q = clr l[i] l[k] := ⟨_, rfl⟩
            have HQ := Lib.hid hq
            have HLS := Lib.hid (low_step HLO.out hlt hltk hq)
            clear hq
            go_wp2_with fail
            refine (clearance_any q l[i] l[k] _ (OK.out.ok hlt) (OK.out.ok hkl) HQ.out).mono ?_
            rintro e w2 ⟨rfl, hb1⟩
            have hba := belowA wr (.cells #[.string l[k].bell, .int .i64 l[k].x, .int .i64 l[k].y, .int .i64 l[k].z, .int .i64 l[k].reach] 34)
            have BX2 := Lib.hid ((BX.out.mono hba).mono hb1)
            have hb2 := hb.trans ((hba.trans (hb1.mono hba.size)).mono hb.size)
            clear y0 y1 y2 y3 y4 mm c0' c1' c2' c3' c4' lx hb1 hba
            by_cases g : m ≤ q
            · have e9 : min m q = m := by omega
              have HL2 := Lib.hid (show Low l i (k + 1) m by rw [← e9]; exact HLS.out)
              have E9 := Lib.hid e9
              clear e9
              have g2 : ¬ q < m := by omega
              go_wp2
              go_roundw
              case rel => exact ⟨k + 1, m, by go_num, by rw [E9.out], by omega, HL2.out, BX2.out, hb2⟩
              case measure => simp [intOf] <;> omega
            · have e9 : min m q = q := by omega
              have HL2 := Lib.hid (show Low l i (k + 1) q by rw [← e9]; exact HLS.out)
              have E9 := Lib.hid e9
              clear e9
              have g2 : q < m := by omega
              go_wp2
              go_roundw
              case rel => exact ⟨k + 1, q, by go_num, by rw [E9.out], by omega, HL2.out, BX2.out, hb2⟩
              case measure => simp [intOf] <;> omega
          · obtain rfl : k = i := by omega
            go_wp2
            go_roundw
            case rel => exact ⟨k + 1, m, by go_num, rfl, by omega, low_next HLO.out, hb⟩
            case measure => simp [intOf] <;> omega
      · obtain rfl : i = l.length := by omega
        go_wp2
        go_ret2
        exact ⟨m, 0, rfl, (fun h => by omega), fun _ => ⟨rfl, fun a b hab hb => HLO.out.le a b hab (.inl hb), HLO.out.some⟩, hb⟩

set_option maxHeartbeats 1000000 in
theorem ClearanceOf_any (a b : PlcD) (w : World) (ha : plcOk a) (hb : plcOk b) (sa : a.bell.size ≤ maxLen) (sb : b.bell.size ≤ maxLen) :
    Calls Tryd.prog 10 #[.agg #[.string a.bell, .int .i64 a.x, .int .i64 a.y, .int .i64 a.z, .int .i64 a.reach], .agg #[.string b.bell, .int .i64 b.x, .int .i64 b.y, .int .i64 b.z, .int .i64 b.reach]] w fun e w' => e = .returned (.tuple #[.int .i64 (clr a b), .int .i64 0]) ∧ Below w.heap.size w w' := by
  obtain ⟨q, hq⟩ : ∃ q, q = clr a b := ⟨_, rfl⟩
  rw [← hq]
  have HQ := Lib.hid hq; have HA := Lib.hid ha; have HB := Lib.hid hb
  clear hq ha hb
  go_enter Tryd.func10, Tryd.ntmps10
  go_wp2_with fail
  have B1 := (Box.alloc w [.string a.bell, .int .i64 a.x, .int .i64 a.y, .int .i64 a.z, .int .i64 a.reach] 34 w.heap.size rfl).mono (belowA _ (.cells #[.string b.bell, .int .i64 b.x, .int .i64 b.y, .int .i64 b.z, .int .i64 b.reach] 34))
  have B2 := Box.alloc (w.alloc (.cells #[.string a.bell, .int .i64 a.x, .int .i64 a.y, .int .i64 a.z, .int .i64 a.reach] 34)) [.string b.bell, .int .i64 b.x, .int .i64 b.y, .int .i64 b.z, .int .i64 b.reach] 34 (w.heap.size + 1) (by simp)
  have hbA : Below w.heap.size w ((w.alloc (.cells #[.string a.bell, .int .i64 a.x, .int .i64 a.y, .int .i64 a.z, .int .i64 a.reach] 34)).alloc (.cells #[.string b.bell, .int .i64 b.x, .int .i64 b.y, .int .i64 b.z, .int .i64 b.reach] 34)) := by (repeat (first | with_reducible exact Below.refl _ _ | with_reducible exact hbw | (with_reducible refine Below.setCell ?_ ?_ _; rotate_left; · first | exact Nat.le_refl _ | omega | (simp; done) | (simp; omega)) | (with_reducible refine Below.alloc ?_ ?_ _; rotate_left; · first | exact Nat.le_refl _ | omega | (simp; done) | (simp; omega)) | with_reducible refine below_drewN ?_ _ | with_reducible refine Below.drew ?_))
  refine (validPlace_any true a _ ⟨fun _ => HA.out, fun _ => rfl⟩ sa).mono ?_
  rintro e w1 ⟨rfl, hb1⟩
  have B1 := B1.mono hb1
  have B2 := B2.mono hb1
  have hbw1 := hbA.trans (hb1.mono hbA.size)
  clear hb1 hbA
  have c0 := B1.at' 0 _ rfl
  have c1 := B1.at' 1 _ rfl
  have c2 := B1.at' 2 _ rfl
  have c3 := B1.at' 3 _ rfl
  have c4 := B1.at' 4 _ rfl
  have l1 := B1.lt
  have d0 := B2.at' 0 _ rfl
  have d1 := B2.at' 1 _ rfl
  have d2 := B2.at' 2 _ rfl
  have d3 := B2.at' 3 _ rfl
  have d4 := B2.at' 4 _ rfl
  have l2 := B2.lt
  have HB1 := Lib.hid B1; have HB2 := Lib.hid B2
  clear B1 B2
  go_wp2_with fail
  refine (validPlace_any true b _ ⟨fun _ => HB.out, fun _ => rfl⟩ sb).mono ?_
  rintro e w2 ⟨rfl, hb2⟩
  have B1 := HB1.out.mono hb2
  have B2 := HB2.out.mono hb2
  have hbw2 := hbw1.trans (hb2.mono hbw1.size)
  clear c0 c1 c2 c3 c4 l1 d0 d1 d2 d3 d4 l2 hb2 HB1 HB2
  have c0 := B1.at' 0 _ rfl
  have c1 := B1.at' 1 _ rfl
  have c2 := B1.at' 2 _ rfl
  have c3 := B1.at' 3 _ rfl
  have c4 := B1.at' 4 _ rfl
  have l1 := B1.lt
  have d0 := B2.at' 0 _ rfl
  have d1 := B2.at' 1 _ rfl
  have d2 := B2.at' 2 _ rfl
  have d3 := B2.at' 3 _ rfl
  have d4 := B2.at' 4 _ rfl
  have l2 := B2.lt
  clear B1 B2
  go_wp2_with fail
  refine (clearance_any q a b _ HA.out HB.out HQ.out).mono ?_
  rintro e w3 ⟨rfl, hb3⟩
  go_wp2
  go_ret2
  exact ⟨rfl, hbw2.trans (hb3.mono hbw2.size)⟩

end Go.Proofs.YteaijhmgfddjiaaDoor
