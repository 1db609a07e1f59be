import Derived.Test.YtenedpboehkmjaaGreatSpZ15
/- Profiles after steps: contract of turned. -/
set_option linter.unusedSimpArgs false
set_option linter.unnecessarySimpa false
set_option linter.unusedVariables false
set_option maxRecDepth 100000
namespace Go.Proofs.YtenedpboehkmjaaGreat
open Go.RowKit

def zBeg (n : Int) (zs : List Int) (k : Nat) : Int := if k < zs.length then zs.getD k 0 else n
theorem zBeg_end (n : Int) (zs : List Int) (k : Nat) : zBeg n zs (k + 1) = zEnd n zs k := rfl
theorem zBeg_in {n : Int} {zs : List Int} {k : Nat} (h : k < zs.length) : zBeg n zs k = zs.getD k 0 := if_pos h
theorem zBeg_all (n : Int) (zs : List Int) : zBeg n zs zs.length = n := if_neg (Nat.lt_irrefl _)
/-- The steps of a list. -/
def stF (st : List Int) : Nat → Int := fun z => st.getD z 0
theorem ring_bd {x : PrfD} (ok : prfOk x) {k : Nat} (h : k < x.rings.length) : 0 ≤ (rg x.rings k).inner ∧ (rg x.rings k).inner ≤ 150000 := by
  have := (ok.2.2.1 k h).1
  unfold ringOk at this
  omega

set_option maxHeartbeats 4000000 in
theorem turned_any (v : Value) (x : PrfD) (vz : Value) (zs : List Int) (vs : Value) (st : List Int) (w : World) (h : RdPrf w v x) (h1 : Ints w vz zs) (h2 : Ints w vs st) (ok : prfOk x) (zo : zonesOk x.rings.length zs) (hl : zs.length ≤ st.length) (hs : ∀ z, z < zs.length → 0 ≤ st.getD z 0 ∧ st.getD z 0 ≤ 20) :
    Calls Tryz.prog 77 #[v, vz, vs] w fun e w' => ∃ a c, e = .returned (.agg #[.string x.name, .slice a x.rings.length c]) ∧ Rngs w' (.slice a x.rings.length c) (turnV zs (stF st) x.rings) ∧ Below w.heap.size w w' := by
  have H := Lib.hid h
  obtain ⟨lv, rfl, hrr⟩ := h
  obtain ⟨a, c, rfl, hc1, hc2, _⟩ := id hrr
  have H1 := Lib.hid h1
  obtain ⟨az, cz, rfl, hz1, hz2, _⟩ := id h1
  have H2 := Lib.hid h2
  obtain ⟨aS, cS, rfl, _⟩ := id h2
  have HOK := Lib.hid ok; have HZO := Lib.hid zo; have HS := Lib.hid hs
  have hl8 := zo.1.2
  have hl1 := zo.1.1
  have hl32 := ok.2.1.2
  have hp32 := ok.2.1.1
  clear hz1 hz2 hrr h1 h2 ok zo hs hc1 hc2
  go_enter Tryz.func77, Tryz.ntmps77
  go_wp2_with fail
  obtain ⟨wA, hA⟩ : ∃ wA, wA = (w.alloc (.cells #[.string x.name, .slice a x.rings.length c] 42)).alloc (.cells #[.string ⟨#[]⟩, .slice none 0 0] 42) := ⟨_, rfl⟩
  rw [← hA]
  have HBA := Lib.hid (show Below w.heap.size w wA by rw [hA]; (repeat (first | with_reducible exact Below.refl _ _ | with_reducible exact hbw | (with_reducible refine Below.setCell ?_ ?_ _; rotate_left; · first | exact Nat.le_refl _ | omega | (simp; done) | (simp; omega)) | (with_reducible refine Below.alloc ?_ ?_ _; rotate_left; · first | exact Nat.le_refl _ | omega | (simp; done) | (simp; omega)) | with_reducible refine below_drewN ?_ _ | with_reducible refine Below.drew ?_)))
  have hsA : wA.heap.size = w.heap.size + 1 + 1 := by rw [hA]; simp
  have BP := Lib.hid (show Box wA w.heap.size [.string x.name, .slice a x.rings.length c] by
    rw [hA]; exact (Box.alloc w _ _ _ rfl).mono (belowA _ _))
  have BR := Lib.hid (show Box wA (w.heap.size + 1) [.string ⟨#[]⟩, .slice none 0 0] by
    rw [hA]; exact Box.alloc _ _ _ _ (by simp))
  clear hA
  have HSA := Lib.hid hsA
  clear hsA
  refine (copyProfile_any _ x _ (H.out.mono HBA.out) (by omega)).mono ?_
  rintro e w1 ⟨g0, cg, rfl, ho, hb⟩
  have HB1 := Lib.hid (HBA.out.trans (hb.mono HBA.out.size))
  have BP1 := Lib.hid (BP.out.mono hb)
  have BR1 := Lib.hid (BR.out.mono hb)
  have hz1 := hb.size
  obtain ⟨g, og, rfl, hgl, _⟩ := (show Rngs w1 (.slice g0 x.rings.length cg) x.rings from ho.sl).at (k := 0) (by omega)
  have hog : og = 0 := by
    rcases ho.1.2 with ⟨h1, h2⟩ | ⟨g', c, cur, h1, h2, _⟩
    · cases h1
    · cases h1; rfl
  subst hog
  have hcg := ho.sl
  obtain ⟨_, _, e1, hcg1, hcg2, _⟩ := hcg
  cases e1
  obtain ⟨hg1, _⟩ := ho.1.lt g rfl
  have BG := Lib.hid (Box.of_owns ho.1)
  have HCG := Lib.hid hcg2
  clear ho hb hcg2
  go_wp2_with fail
  obtain ⟨wB, hB⟩ : ∃ wB, wB = w1.alloc (.cells #[.string x.name, .slice (some ⟨g, 0, none⟩) x.rings.length cg] 42) := ⟨_, rfl⟩
  rw [← hB]
  have hbB : Below w1.heap.size w1 wB := by rw [hB]; exact belowA _ _
  have BO := Lib.hid (show Box wB w1.heap.size [.string x.name, .slice (some ⟨g, 0, none⟩) x.rings.length cg] by
    rw [hB]; exact Box.alloc _ _ _ _ rfl)
  replace BG := Lib.hid (BG.out.mono hbB)
  replace BP1 := Lib.hid (BP1.out.mono hbB)
  replace BR1 := Lib.hid (BR1.out.mono hbB)
  replace HB1 := Lib.hid (HB1.out.trans (hbB.mono HB1.out.size))
  have hsB := hbB.size
  clear hB hbB
  have hgw : w.heap.size + 1 < g := by have := HSA.out; omega
  have hgB : g < w1.heap.size := hgl
  go_loopw [8, 9, 10, 15] (fun _ _ _ iv wr => ∃ (z : Nat), z ≤ zs.length ∧ iv = .int .i64 (z : Int) ∧ Box wr g ((partT zs (stF st) x.rings (zBeg x.rings.length zs z).toNat).flatMap Rng.cells) ∧ Touch g (g + 1) wB wr) (fun _ _ _ iv _ => zs.length - (intOf iv).toNat)
  case atStart =>
    refine ⟨0, Nat.zero_le _, by go_num, ?_, Touch.refl _ _ _⟩
    rw [zBeg_in (by omega), HZO.out.2.1, Int.toNat_zero, partT_zero]
    exact BG.out
  case round =>
    obtain ⟨z, hz, rfl, hbx, ht⟩ := hrel
    have HBX := Lib.hid hbx; have HT := Lib.hid ht
    have hsr := ht.size
    have HBW := Lib.hid (ht.below HB1.out (by omega) HB1.out.size)
    clear hbx ht
    by_cases hlt : z < zs.length
    · obtain ⟨b1, o1, rfl, c1⟩ := (Ints.mono H1.out HBW.out).cells (by simp; omega)
      have d1 := c1 z (.int .i64 (zs.getD z 0)) (by simp [hlt])
      have hbd := zone_bd HZO.out hlt
      rw [zBeg_in hlt] at HBX
      obtain ⟨f, hf⟩ : ∃ f : Nat, zs.getD z 0 = (f : Int) := Int.eq_ofNat_of_zero_le hbd.1
      obtain ⟨t, ht⟩ : ∃ t : Nat, zEnd x.rings.length zs z = (t : Int) := Int.eq_ofNat_of_zero_le (by omega)
      rw [hf] at d1 hbd HBX
      rw [ht] at hbd
      rw [Int.toNat_natCast] at HBX
      have HF := Lib.hid hf
      have HTT := Lib.hid ht
      have hft : f < t := by omega
      have htn : t ≤ x.rings.length := by omega
      clear hf ht c1 hbd
      go_wp2_with fail
      obtain ⟨wo, rfl⟩ : ∃ wo : World, wo = wr := ⟨_, rfl⟩
      go_loopw [10] (fun kv wi => ∃ (k : Nat), f ≤ k ∧ k ≤ t ∧ kv = .int .i64 (k : Int) ∧ Box wi g ((partT zs (stF st) x.rings k).flatMap Rng.cells) ∧ Touch g (g + 1) wB wi) (fun kv _ => t - (intOf kv).toNat)
      case atStart => exact ⟨f, Nat.le_refl _, by omega, by go_num, HBX.out, HT.out⟩
      case round =>
        obtain ⟨k, hk1, hk2, rfl, hbx, ht⟩ := hrel
        clear HBX HT hsr HBW
        have hsr := ht.size
        have hbw : Below w.heap.size w wr := ht.below HB1.out (by omega) HB1.out.size
        have p0 := (BP1.out.touch ht (.inl (by omega))).at' 0 _ rfl
        have p1 := (BP1.out.touch ht (.inl (by omega))).at' 1 _ rfl
        have hwl : w.heap.size < wr.heap.size := by omega
        have HBW := Lib.hid hbw
        clear hbw
        go_wp2_with fail
        refine (zoneEnd_any (t : Int) _ x _ zs z _ (H.out.mono HBW.out) (Ints.mono H1.out HBW.out) hlt HTT.out.symm).mono ?_
        rintro e w3 ⟨rfl, hb3⟩
        have HBX := Lib.hid (hbx.mono hb3)
        have HT := Lib.hid (ht.step hb3 (by omega))
        replace HBW := Lib.hid (HBW.out.trans (hb3.mono HBW.out.size))
        have hs3 := hb3.size
        clear hbx ht hb3 p0 p1
        by_cases hkt : k < t
        · have q1 := (BO.out.touch HT.out (.inr (by omega))).at' 1 _ rfl
          have l1 := (BO.out.touch HT.out (.inr (by omega))).lt
          have hkn : k < x.rings.length := by omega
          obtain ⟨u1, hu1⟩ := part_box HBX.out hkn
          have lg := HBX.out.lt
          have fg := HBX.out.fr (k * 3 + 1)
          have hri := ring_bd HOK.out hkn
          have hsz := HS.out z hlt
          have hzo := zoneOf_in HZO.out hlt (i := (k : Int)) (by rw [HF.out]; omega) (by rw [HTT.out]; omega)
          have hta : (turnAt zs (stF st) x.rings k).inner = (rg x.rings k).inner + 10 * st.getD z 0 := by
            show (rg x.rings k).inner + 10 * stF st (zoneOfV zs (k : Int)) = _
            rw [hzo]; rfl
          rw [hta] at hu1
          obtain ⟨b2, o2, rfl, c2⟩ := (Ints.mono H2.out HBW.out).cells (by simp; omega)
          have hzs : z < st.length := by omega
          have d2 := c2 z (.int .i64 (st.getD z 0)) (by simp [hzs])
          obtain ⟨y, hy⟩ : ∃ y, y = st.getD z 0 := ⟨_, rfl⟩
          obtain ⟨r, hr⟩ : ∃ r, r = (rg x.rings k).inner := ⟨_, rfl⟩
          rw [← hy] at d2 hsz hu1
          rw [← hr] at u1 hri hu1
          have lb2 := World.block_lt_of_cell? _ _ d2
          simp only at lb2
          have w1' : IntKind.i64.wrap (10 * y) = 10 * y := IntWalk.i64_in _ (by omega)
          have w2' : IntKind.i64.wrap (r + 10 * y) = r + 10 * y := IntWalk.i64_in _ (by omega)
          have w3' : IntKind.i64.wrap ((k : Int) + 1) = (k : Int) + 1 := IntWalk.i64_in _ (by omega)
          have HU := Lib.hid hu1
          have hkI : (k : Int) < (x.rings.length : Int) := by omega
          have hktI : (k : Int) < (t : Int) := by omega
          have hzI : (z : Int) < (st.length : Int) := by omega
          clear hu1 hta hzo hy hr c2 hri hsz
          go_wp2_with fail
          refine wp_region_ordG [(0, 1), (1, 2), (2, 1), (3, 1), (4, 1), (5, 2), (6, 1), (7, 1), (8, 1), (9, 2), (10, 1), (11, 1), (12, 1), (13, 1), (14, 0)] [14] (some g) (by kernel_rfl) (by kernel_rfl) ?_
          (repeat ((first | with_reducible refine wpOrdG_soft (fun K hK => ?_) | with_reducible refine wpOrdG_pre (fun K hK => ?_)); simp only [List.getElem?_toArray, List.getElem?_cons_zero, List.getElem?_cons_succ]; first | (go_simp; refine hK _ ?_) | (simp only [undef]; go_simp; refine hK _ ?_); clear hK K))
          (with_reducible refine wpOrdG_hard ?_; simp only [List.getElem?_toArray, List.getElem?_cons_zero, List.getElem?_cons_succ])
          go_wp2_with fail
          refine And.intro (grown_cellS (grown_selfS _ _) _ _) ?_
          (with_reducible refine wpOrdG_nil ?_); refine NoPanic.normal ?_
          go_wp2
          go_roundw
          case rel => exact ⟨k + 1, by omega, by omega, by go_num, ⟨HU.out.lt, HU.out.at', HU.out.fr⟩, (HT.out.setCell ⟨Nat.le_refl _, Nat.lt_succ_self _⟩ _).drew⟩
          case measure => simp [intOf]; omega
        · obtain rfl : k = t := by omega
          go_wp2
          go_roundw
          case rel => exact ⟨z + 1, by omega, by go_num, by rw [zBeg_end, HTT.out]; exact HBX.out, HT.out⟩
          case measure => simp [intOf]; omega
    · obtain rfl : z = zs.length := by omega
      have hbx := HBX.out
      rw [zBeg_all, Int.toNat_natCast, partT_all] at hbx
      have HBX2 := Lib.hid hbx
      have q0 := (BO.out.touch HT.out (.inr (by omega))).at' 0 _ rfl
      have q1 := (BO.out.touch HT.out (.inr (by omega))).at' 1 _ rfl
      have l1 := (BO.out.touch HT.out (.inr (by omega))).lt
      have BRX := BR1.out.touch HT.out (.inl (by omega))
      have r0 := BRX.at' 0 _ rfl
      have r1 := BRX.at' 1 _ rfl
      have f0 := BRX.fr 0
      have f1 := BRX.fr 1
      have lr := BRX.lt
      clear hbx BRX
      go_wp2
      refine bodyPost_ret (v := .agg #[.string x.name, .slice (some ⟨g, 0, none⟩) x.rings.length cg]) (by simp [results, Tryz.results77, go_sem, r0, r1, f0, f1, lr]) rfl ⟨_, _, rfl, ?_, ?_⟩
      · have htc := Touch.refl (w.heap.size + 1) (w.heap.size + 1 + 1) wr
        have hR := Rngs.of_box (cap := cg) (HBX2.out.touch (B := w.heap.size + 1) (E := w.heap.size + 1 + 1) (Touch.setCell (Touch.setCell htc (p := ⟨w.heap.size + 1, 0, none⟩) ⟨Nat.le_refl _, Nat.lt_succ_self _⟩ (.string x.name)) (p := ⟨w.heap.size + 1, 1, none⟩) ⟨Nat.le_refl _, Nat.lt_succ_self _⟩ (.slice (some ⟨g, 0, none⟩) x.rings.length cg)) (.inr (by omega))) (by rw [turnV_len]; exact hcg1) HCG.out
        rw [turnV_len] at hR
        exact hR
      · have hbw := HBW.out
        (repeat (first | with_reducible exact Below.refl _ _ | with_reducible exact hbw | (with_reducible refine Below.setCell ?_ ?_ _; rotate_left; · first | exact Nat.le_refl _ | omega | (simp; done) | (simp; omega)) | (with_reducible refine Below.alloc ?_ ?_ _; rotate_left; · first | exact Nat.le_refl _ | omega | (simp; done) | (simp; omega)) | with_reducible refine below_drewN ?_ _ | with_reducible refine Below.drew ?_))
end Go.Proofs.YtenedpboehkmjaaGreat
/- Profiles after steps: contract of l09Turned. -/
set_option linter.unusedSimpArgs false
set_option linter.unnecessarySimpa false
set_option linter.unusedVariables false
set_option maxRecDepth 100000
namespace Go.Proofs.YtenedpboehkmjaaGreat
open Go.RowKit

theorem Touch.drew2 {B E : Nat} {a b : World} (h : Touch B E a b) : Touch B E a.drew b.drew := ⟨h.os, h.tape, h.output, h.size, h.block⟩
set_option maxHeartbeats 4000000 in
theorem l09Turned_any (q o : Nat) (x : PrfD) (vz : Value) (zs : List Int) (vs : Value) (st : List Int) (w : World) {a : Option Addr} {c : Nat} (h : PrfIn w q o x a c) (h1 : Ints w vz zs) (h2 : Ints w vs st) (ok : prfOk x) (hl1 : 1 ≤ zs.length) (hl : zs.length ≤ st.length) (hs : ∀ z, z < zs.length → 0 ≤ st.getD z 0 ∧ st.getD z 0 ≤ 20) :
    Calls Tryz.prog 65 #[.pointer (some ⟨q, o, none⟩), vz, vs] w fun e w' => ∃ a c, e = .returned (.agg #[.string x.name, .slice a x.rings.length c]) ∧ Rngs w' (.slice a x.rings.length c) (turnV zs (stF st) x.rings) ∧ Below w.heap.size w w' ∧ ∀ b o, a = some ⟨b, o, none⟩ → w.heap.size < b := by
  have H := Lib.hid h
  have H1 := Lib.hid h1
  obtain ⟨az, cz, rfl, hz1, hz2, _⟩ := id h1
  have H2 := Lib.hid h2
  obtain ⟨aS, cS, rfl, _⟩ := id h2
  have HOK := Lib.hid ok; have HS := Lib.hid hs
  have hl32 := ok.2.1.2
  have hp32 := ok.2.1.1
  clear hz1 hz2 h h1 h2 ok hs
  go_enter Tryz.func65, Tryz.ntmps65
  go_wp2_with fail
  obtain ⟨wA, hA⟩ : ∃ wA, wA = w.alloc (.cells #[.string ⟨#[]⟩, .slice none 0 0] 42) := ⟨_, rfl⟩
  rw [← hA]
  have HBA := Lib.hid (show Below w.heap.size w wA by rw [hA]; (repeat (first | with_reducible exact Below.refl _ _ | with_reducible exact hbw | (with_reducible refine Below.setCell ?_ ?_ _; rotate_left; · first | exact Nat.le_refl _ | omega | (simp; done) | (simp; omega)) | (with_reducible refine Below.alloc ?_ ?_ _; rotate_left; · first | exact Nat.le_refl _ | omega | (simp; done) | (simp; omega)) | with_reducible refine below_drewN ?_ _ | with_reducible refine Below.drew ?_)))
  have hsA : wA.heap.size = w.heap.size + 1 := by rw [hA]; simp
  have BR := Lib.hid (show Box wA w.heap.size [.string ⟨#[]⟩, .slice none 0 0] by
    rw [hA]; exact Box.alloc _ _ _ _ (by simp))
  clear hA
  have HSA := Lib.hid hsA
  clear hsA
  refine (l05Own_any q o x _ (H.out.mono HBA.out) (by omega)).mono ?_
  rintro e w1 ⟨g0, cg, rfl, ho, hb⟩
  have HB1 := Lib.hid (HBA.out.trans (hb.mono HBA.out.size))
  have BR1 := Lib.hid (BR.out.mono hb)
  have hz1 := hb.size
  obtain ⟨g, og, rfl, hgl, _⟩ := (show Rngs w1 (.slice g0 x.rings.length cg) x.rings from ho.sl).at (k := 0) (by omega)
  have hog : og = 0 := by
    rcases ho.1.2 with ⟨h1, h2⟩ | ⟨g', c, cur, h1, h2, _⟩
    · cases h1
    · cases h1; rfl
  subst hog
  have hcg := ho.sl
  obtain ⟨_, _, e1, hcg1, hcg2, _⟩ := hcg
  cases e1
  obtain ⟨hg1, _⟩ := ho.1.lt g rfl
  have BG := Lib.hid (Box.of_owns ho.1)
  have HCG := Lib.hid hcg2
  clear ho hb hcg2
  go_wp2_with fail
  obtain ⟨wB, hB⟩ : ∃ wB, wB = w1.alloc (.cells #[.string x.name, .slice (some ⟨g, 0, none⟩) x.rings.length cg] 42) := ⟨_, rfl⟩
  rw [← hB]
  have hbB : Below w1.heap.size w1 wB := by rw [hB]; exact belowA _ _
  have BO := Lib.hid (show Box wB w1.heap.size [.string x.name, .slice (some ⟨g, 0, none⟩) x.rings.length cg] by
    rw [hB]; exact Box.alloc _ _ _ _ rfl)
  replace BG := Lib.hid (BG.out.mono hbB)
  replace BR1 := Lib.hid (BR1.out.mono hbB)
  replace HB1 := Lib.hid (HB1.out.trans (hbB.mono HB1.out.size))
  have hsB := hbB.size
  clear hB hbB
  have hgw : w.heap.size < g := by have := HSA.out; omega
  have hgB : g < w1.heap.size := hgl
  go_loopw [8] (fun iv wr => ∃ (k : Nat), k ≤ x.rings.length ∧ iv = .int .i64 (k : Int) ∧ Box wr g ((partT zs (stF st) x.rings k).flatMap Rng.cells) ∧ Touch g (g + 1) wB wr) (fun iv _ => x.rings.length - (intOf iv).toNat)
  case atStart =>
    refine ⟨0, Nat.zero_le _, by go_num, ?_, Touch.refl _ _ _⟩
    rw [partT_zero]
    exact BG.out
  case round =>
    obtain ⟨k, hk, rfl, hbx, ht⟩ := hrel
    have HBX := Lib.hid hbx; have HT := Lib.hid ht
    have hsr := ht.size
    have HBW := Lib.hid (ht.below HB1.out (by omega) HB1.out.size)
    have q1 := (BO.out.touch ht (.inr (by omega))).at' 1 _ rfl
    have l1 := (BO.out.touch ht (.inr (by omega))).lt
    clear hbx ht
    by_cases hkn : k < x.rings.length
    · obtain ⟨u1, hu1⟩ := part_box HBX.out hkn
      have lg := HBX.out.lt
      have fg := HBX.out.fr (k * 3 + 1)
      have hri := ring_bd HOK.out hkn
      have hzl := zoneOf_lt hl1 (k : Int)
      have hta : (turnAt zs (stF st) x.rings k).inner = (rg x.rings k).inner + 10 * st.getD (zoneOfV zs (k : Int)) 0 := rfl
      rw [hta] at hu1
      obtain ⟨z, hz⟩ : ∃ z, z = zoneOfV zs (k : Int) := ⟨_, rfl⟩
      rw [← hz] at hu1 hzl
      have hsz := HS.out z hzl
      have HZ := Lib.hid hz
      obtain ⟨b2, o2, rfl, c2⟩ := (Ints.mono H2.out HBW.out).cells (by simp; omega)
      have hzs : z < st.length := by omega
      have d2 := c2 z (.int .i64 (st.getD z 0)) (by simp [hzs])
      obtain ⟨y, hy⟩ : ∃ y, y = st.getD z 0 := ⟨_, rfl⟩
      obtain ⟨r, hr⟩ : ∃ r, r = (rg x.rings k).inner := ⟨_, rfl⟩
      rw [← hy] at d2 hsz hu1
      rw [← hr] at u1 hri hu1
      have lb2 := World.block_lt_of_cell? _ _ d2
      have l2w := H2.out.cells (by simp; omega)
      obtain ⟨_, _, e2, c2w⟩ := l2w
      cases e2
      have lb3 := World.block_lt_of_cell? _ _ (c2w z (.int .i64 (st.getD z 0)) (by simp [hzs]))
      simp only at lb2 lb3
      have hgb2 : ¬ b2 = g := by omega
      have w1' : IntKind.i64.wrap (10 * y) = 10 * y := IntWalk.i64_in _ (by omega)
      have w2' : IntKind.i64.wrap (r + 10 * y) = r + 10 * y := IntWalk.i64_in _ (by omega)
      have w3' : IntKind.i64.wrap ((k : Int) + 1) = (k : Int) + 1 := IntWalk.i64_in _ (by omega)
      have HU := Lib.hid hu1
      have HHZ := Lib.hid (Ints.mono H1.out HBW.out)
      have hkI : (k : Int) < (x.rings.length : Int) := by omega
      have hzI : (z : Int) < (st.length : Int) := by omega
      have n1 : ∀ y', (extT wr.drew g (g + 1) y').cell? ⟨w1.heap.size, 1, none⟩ = some (.slice (some ⟨g, 0, none⟩) x.rings.length cg) := fun y' => (cell?_extT (w := wr.drew) l1 (.inr (by omega))).trans q1
      have n2 : ∀ y', (extT wr.drew g (g + 1) y').cell? ⟨b2, o2 + z, none⟩ = some (.int .i64 y) := fun y' => (cell?_extT (w := wr.drew) lb2 (.inl (by omega))).trans d2
      have n3 : ∀ y', (ext wr.drew none y').cell? ⟨g, k * 3 + 1, none⟩ = some (.int .i64 r) := fun y' => (cell?_ext (w := wr.drew) lg (by simp)).trans u1
      clear hu1 hta hz hy hr c2 hri hsz c2w
      go_wp2_with fail
      refine wp_region_ord3 [(0, 1), (1, 1), (2, 1), (3, 1), (4, 1), (5, 3), (6, 1), (7, 1), (8, 1), (9, 4), (10, 1), (11, 1), (12, 1), (13, 1), (14, 1), (15, 1), (16, 0)] [9, 16] [16] (g) (g + 1) (by kernel_rfl) (by kernel_rfl) ?_
      (repeat ((first | with_reducible refine wpOrd3_soft (fun K hK => ?_) | with_reducible refine wpOrd3_pre (fun K hK => ?_) | with_reducible refine wpOrd3_late (fun K hK => ?_)); simp only [List.getElem?_toArray, List.getElem?_cons_zero, List.getElem?_cons_succ]; first | (go_simp; refine hK _ ?_) | (simp only [undef]; go_simp; refine hK _ ?_); clear hK K))
      ((first | with_reducible refine wpOrd3_hard ?_ | with_reducible refine wpOrd3_new ?_); simp only [List.getElem?_toArray, List.getElem?_cons_zero, List.getElem?_cons_succ])
      go_wp2_with fail
      refine (l09Zone_any _ zs (k : Int) _ (Ints.mono HHZ.out (Below.refl _ _).drew)).mono ?_
      rw [← HZ.out]
      rintro e w6 ⟨rfl, rfl⟩
      go_wp2_with fail
      refine And.intro (grown_selfS _ _) ?_
      (repeat ((first | with_reducible refine wpOrd3_soft (fun K hK => ?_) | with_reducible refine wpOrd3_pre (fun K hK => ?_) | with_reducible refine wpOrd3_late (fun K hK => ?_)); simp only [List.getElem?_toArray, List.getElem?_cons_zero, List.getElem?_cons_succ]; first | (go_simp; refine hK _ ?_) | (simp only [undef]; go_simp; refine hK _ ?_); clear hK K))
      ((first | with_reducible refine wpOrd3_hard ?_ | with_reducible refine wpOrd3_new ?_); simp only [List.getElem?_toArray, List.getElem?_cons_zero, List.getElem?_cons_succ])
      go_wp2_with fail
      refine And.intro (Touch.drew2 ((Touch.refl g (g + 1) wr).setCell (p := ⟨g, k * 3 + 1, none⟩) ⟨Nat.le_refl _, Nat.lt_succ_self _⟩ _)) ?_
      (with_reducible refine wpOrd3_nil ?_); refine NoPanic.normal ?_
      go_wp2
      go_roundw
      case rel => exact ⟨k + 1, by omega, by go_num, ⟨HU.out.lt, HU.out.at', HU.out.fr⟩, (HT.out.setCell ⟨Nat.le_refl _, Nat.lt_succ_self _⟩ _).drew⟩
      case measure => simp [intOf]; omega
    · obtain rfl : k = x.rings.length := by omega
      have hbx := HBX.out
      rw [partT_all] at hbx
      have HBX2 := Lib.hid hbx
      have q0 := (BO.out.touch HT.out (.inr (by omega))).at' 0 _ rfl
      have BRX := BR1.out.touch HT.out (.inl (by omega))
      have r0 := BRX.at' 0 _ rfl
      have r1 := BRX.at' 1 _ rfl
      have f0 := BRX.fr 0
      have f1 := BRX.fr 1
      have lr := BRX.lt
      clear hbx BRX
      go_wp2
      refine bodyPost_ret (v := .agg #[.string x.name, .slice (some ⟨g, 0, none⟩) x.rings.length cg]) (by simp [results, Tryz.results65, go_sem, r0, r1, f0, f1, lr]) rfl ⟨_, _, rfl, ?_, ?_, fun b o e => by cases e; exact hgw⟩
      · have htc := Touch.refl w.heap.size (w.heap.size + 1) wr
        have hR := Rngs.of_box (cap := cg) (HBX2.out.touch (B := w.heap.size) (E := w.heap.size + 1) (Touch.setCell (Touch.setCell htc (p := ⟨w.heap.size, 0, none⟩) ⟨Nat.le_refl _, Nat.lt_succ_self _⟩ (.string x.name)) (p := ⟨w.heap.size, 1, none⟩) ⟨Nat.le_refl _, Nat.lt_succ_self _⟩ (.slice (some ⟨g, 0, none⟩) x.rings.length cg)) (.inr (by omega))) (by rw [turnV_len]; exact hcg1) HCG.out
        rw [turnV_len] at hR
        exact hR
      · have hbw := HBW.out
        (repeat (first | with_reducible exact Below.refl _ _ | with_reducible exact hbw | (with_reducible refine Below.setCell ?_ ?_ _; rotate_left; · first | exact Nat.le_refl _ | omega | (simp; done) | (simp; omega)) | (with_reducible refine Below.alloc ?_ ?_ _; rotate_left; · first | exact Nat.le_refl _ | omega | (simp; done) | (simp; omega)) | with_reducible refine below_drewN ?_ _ | with_reducible refine Below.drew ?_))
end Go.Proofs.YtenedpboehkmjaaGreat
/- The room of zones: contracts of mostSteps and l09Most. -/
set_option linter.unusedSimpArgs false
set_option linter.unnecessarySimpa false
set_option linter.unusedVariables false
set_option maxRecDepth 100000
namespace Go.Proofs.YtenedpboehkmjaaGreat
open Go.RowKit

def oneL (n z : Nat) (m : Int) : List Int := (List.replicate n 0).set z m
theorem oneL_len (n z : Nat) (m : Int) : (oneL n z m).length = n := by simp [oneL]
theorem oneL_at {n z y : Nat} {m : Int} (hy : y < n) : (oneL n z m).getD y 0 = oneZ z m y := by
  unfold oneL oneZ
  rw [List.getD_eq_getElem?_getD, List.getElem?_set]
  by_cases e : z = y
  · subst e; simp [hy]
  · rw [if_neg e, if_neg (fun h => e h.symm)]; simp [hy]
theorem oneL_bd {n z y : Nat} {m : Int} (hy : y < n) (h0 : 0 ≤ m) (hm : m ≤ 20) : 0 ≤ (oneL n z m).getD y 0 ∧ (oneL n z m).getD y 0 ≤ 20 := by
  rw [oneL_at hy]; unfold oneZ; split <;> omega
theorem oneL_turn {zs : List Int} {n z : Nat} {m : Int} (hz : 1 ≤ zs.length) (hn : zs.length ≤ n) (x : PrfD) : turnP x zs (stF (oneL n z m)) = turnP x zs (oneZ z m) :=
  turnP_same hz (fun y hy => oneL_at (by omega)) x
theorem rdTurn {w : World} {x : PrfD} {zs : List Int} {f g : Nat → Int} {a : Option Addr} {c : Nat} (h : Rngs w (.slice a x.rings.length c) (turnV zs f x.rings)) (e : turnP x zs f = turnP x zs g) : RdPrf w (.agg #[.string x.name, .slice a x.rings.length c]) (turnP x zs g) := by
  rw [← e]; exact ⟨_, rfl, h⟩
theorem makeBox {w : World} {base g n : Nat} {e : TypeId} (h : w.ownsRow base e 1 (.slice (some ⟨g, 0, none⟩) n n) n (madeCells (Value.cells (.int .i64 0)) n).toList) : Box w g (List.replicate n (.int .i64 0)) := by
  have := Box.of_owns h
  rwa [show (madeCells (Value.cells (.int .i64 0)) n).toList = List.replicate n (.int .i64 0) from toList_madeCells _ n 0 _ rfl] at this
theorem Ints.of_box {w : World} {g cap n : Nat} {xs : List Int} (h : Box w g (xs.map (Value.int .i64))) (hn : xs.length = n) (hc : n ≤ cap) (hm : cap ≤ maxLen) : Ints w (.slice (some ⟨g, 0, none⟩) n cap) xs := by
  subst hn
  exact ⟨_, _, rfl, hc, hm, fun j u hu => ⟨g, 0, rfl, by rw [Nat.zero_add]; exact h.at' j u hu⟩⟩
theorem oneL_cells (n z : Nat) (m : Int) : (oneL n z m).map (Value.int .i64) = (List.replicate n (Value.int .i64 0)).set z (.int .i64 m) := by
  unfold oneL; rw [List.map_set, List.map_replicate]

set_option maxHeartbeats 4000000 in
theorem mostSteps_any (v : Value) (x : PrfD) (vz : Value) (zs : List Int) (z : Nat) (w : World) (h : RdPrf w v x) (hn : x.name.size ≤ maxLen) (h1 : Ints w vz zs) (ok : prfOk x) (zo : zonesOk x.rings.length zs) (hz : z < zs.length) :
    Calls Tryz.prog 96 #[v, vz, .int .i64 (z : Int)] w fun e w' => e = .returned (.int .i64 (mostV x zs z : Nat)) ∧ Below w.heap.size w w' := by
  have H := Lib.hid h
  obtain ⟨lv, rfl, hrr⟩ := h
  obtain ⟨a, c, rfl, hc1, hc2, _⟩ := id hrr
  have H1 := Lib.hid h1
  obtain ⟨az, cz, rfl, hz1, hz2, _⟩ := id h1
  have HOK := Lib.hid ok; have HZO := Lib.hid zo
  have hl8 := zo.1.2
  have hl1 := zo.1.1
  have HNM := Lib.hid hn
  obtain ⟨i0, hi, hi0, hi1, hi2⟩ := info_parts info_int
  clear hz1 hz2 hrr h1 ok zo hc1 hc2 hn
  go_enter Tryz.func96, Tryz.ntmps96
  go_wp2_with fail
  obtain ⟨wA, hA⟩ : ∃ wA, wA = w.alloc (.cells #[.string x.name, .slice a x.rings.length c] 42) := ⟨_, rfl⟩
  rw [← hA]
  have HBA := Lib.hid (show Below w.heap.size w wA by rw [hA]; (repeat (first | with_reducible exact Below.refl _ _ | with_reducible exact hbw | (with_reducible refine Below.setCell ?_ ?_ _; rotate_left; · first | exact Nat.le_refl _ | omega | (simp; done) | (simp; omega)) | (with_reducible refine Below.alloc ?_ ?_ _; rotate_left; · first | exact Nat.le_refl _ | omega | (simp; done) | (simp; omega)) | with_reducible refine below_drewN ?_ _ | with_reducible refine Below.drew ?_)))
  have BP := Lib.hid (show Box wA w.heap.size [.string x.name, .slice a x.rings.length c] by
    rw [hA]; exact (Box.alloc w _ _ _ rfl))
  have HSA := Lib.hid (show wA.heap.size = w.heap.size + 1 by rw [hA]; simp)
  clear hA
  go_loopw [7, 8] (fun nv _ wr => ∃ (n : Nat), n ≤ 20 ∧ nv = .int .i64 ((n : Int) + 1) ∧ mostFrom x zs z (20 - n) n = mostV x zs z ∧ Below wA.heap.size wA wr) (fun nv _ _ => 22 - (intOf nv).toNat)
  case atStart => exact ⟨0, Nat.zero_le _, by go_num, rfl, Below.refl _ _⟩
  case round =>
    obtain ⟨n, hn, rfl, hm, hb⟩ := hrel
    have HM := Lib.hid hm
    have HB := Lib.hid hb
    have hz := hb.size
    have HBW := Lib.hid (HBA.out.trans (hb.mono HBA.out.size))
    clear hm hb
    by_cases hlt : n < 20
    · have hle : (n : Int) + 1 ≤ 20 := by omega
      go_wp2_with (at_make; refine wpList_make_full _ rfl _ _ 22 rfl wr.heap.size 2 i0 (.int .i64 0) 1 Tryz.underlying22 hi hi0 hi1 _ _ _ _ zs.length rfl rfl rfl rfl (by rw [hi2]; omega) (by unfold maxLen; omega) (Nat.le_refl _) ?_)
      intro w2 hown hgrow
      have hb2 : Below wr.heap.size wr w2 := (Below.refl _ _).grown hgrow (Nat.le_refl _) (by simp)
      have BX := Lib.hid (makeBox hown)
      have HB2 := Lib.hid (HB.out.trans (hb2.mono HB.out.size))
      have HBW2 := Lib.hid (HBW.out.trans (hb2.mono HBW.out.size))
      have s2 := hb2.size
      clear hown hgrow hb2
      have b0 : w2.cell? ⟨wr.heap.size, z, none⟩ = some (.int .i64 0) := BX.out.at' z (.int .i64 0) (by rw [List.getElem?_replicate, if_pos (by omega)])
      have b1 := BX.out.fr z
      have b2 := BX.out.lt
      have BX2 := BX.out.set (j := z) (.int .i64 ((n : Int) + 1)) (by simp; omega)
      rw [← oneL_cells] at BX2
      have BP3 := BP.out.mono HB2.out
      have p0 := BP3.at' 0 _ rfl
      have p1 := BP3.at' 1 _ rfl
      have pl := BP3.lt
      have hne : ¬ w.heap.size = wr.heap.size := by have := HSA.out; omega
      clear BP3
      have HX := Lib.hid (Ints.of_box (cap := zs.length) BX2 (oneL_len _ _ _) (Nat.le_refl _) (by unfold maxLen; omega))
      clear BX2
      go_wp2_with fail
      obtain ⟨w3, hw3⟩ : ∃ w3, w3 = w2.setCell ⟨wr.heap.size, z, none⟩ (.int .i64 ((n : Int) + 1)) := ⟨_, rfl⟩
      rw [← hw3] at HX ⊢
      have t3 : Touch wr.heap.size (wr.heap.size + 1) w2 w3 := by rw [hw3]; exact (Touch.refl _ _ _).setCell (p := ⟨wr.heap.size, z, none⟩) ⟨Nat.le_refl _, Nat.lt_succ_self _⟩ _
      have HB3 := Lib.hid (t3.below HB2.out (by omega) HB2.out.size)
      have HBW3 := Lib.hid (HBA.out.trans (HB3.out.mono HBA.out.size))
      clear b0 b1 b2 hw3 t3 p0 p1 pl
      refine (turned_any _ x _ zs _ (oneL zs.length z ((n : Int) + 1)) _ (H.out.mono HBW3.out) (Ints.mono H1.out HBW3.out) HX.out HOK.out HZO.out (by rw [oneL_len]; exact Nat.le_refl _) (fun y hy => oneL_bd hy (by omega) hle)).mono ?_
      rintro e w4 ⟨a4, c4, rfl, hr4, hb4⟩
      have HR := Lib.hid (rdTurn hr4 (oneL_turn hl1 (Nat.le_refl _) x))
      have HB4 := Lib.hid (HB3.out.trans (hb4.mono HB3.out.size))
      clear hr4 hb4
      obtain ⟨b, hbb⟩ : ∃ b, b = decide (prfOk (turnP x zs (oneZ z ((n : Int) + 1)))) := ⟨_, rfl⟩
      have HBB := Lib.hid hbb
      clear hbb
      go_wp2_with fail
      refine (ValidProfile_any b _ (turnP x zs (oneZ z ((n : Int) + 1))) _ HR.out HNM.out HBB.out).mono ?_
      rintro e w5 ⟨rfl, hb5⟩
      have HB5 := Lib.hid (HB4.out.trans (hb5.mono HB4.out.size))
      have HBW5 := Lib.hid (HBA.out.trans (HB5.out.mono HBA.out.size))
      clear hb5
      have w1' : IntKind.i64.wrap ((n : Int) + 1 - 1) = (n : Int) := by rw [Int.add_sub_cancel]; exact IntWalk.i64_in _ (by omega)
      have w2' : IntKind.i64.wrap ((n : Int) + 1 + 1) = ((n + 1 : Nat) : Int) + 1 := by rw [Int.natCast_add]; exact IntWalk.i64_in _ (by omega)
      cases b
      · have hno : ¬ prfOk (turnP x zs (oneZ z ((n : Int) + 1))) := of_decide_eq_false HBB.out.symm
        have HE := Lib.hid (show mostV x zs z = n by rw [← HM.out, show 20 - n = (20 - (n + 1)) + 1 by omega, most_no hno])
        clear hno
        go_wp2
        go_ret
        exact ⟨by rw [HE.out]; rfl, HBW5.out⟩
      · have hyes : prfOk (turnP x zs (oneZ z ((n : Int) + 1))) := of_decide_eq_true HBB.out.symm
        have HE := Lib.hid (show mostFrom x zs z (20 - (n + 1)) (n + 1) = mostV x zs z by rw [← HM.out, show 20 - n = (20 - (n + 1)) + 1 by omega, most_yes hyes])
        clear hyes
        go_wp2
        go_roundw
        case rel => exact ⟨n + 1, by omega, rfl, HE.out, HB5.out⟩
        case measure => simp [intOf]; omega
    · obtain rfl : n = 20 := by omega
      have HE := Lib.hid (show mostV x zs z = 20 by rw [← HM.out]; rfl)
      go_wp2
      go_ret
      exact ⟨by rw [HE.out]; rfl, HBW.out⟩

set_option maxHeartbeats 4000000 in
theorem l09Most_any (q o : Nat) (x : PrfD) (vz : Value) (zs : List Int) (z : Nat) (w : World) {a : Option Addr} {c : Nat} (h : PrfIn w q o x a c) (hn : x.name.size ≤ maxLen) (h1 : Ints w vz zs) (ok : prfOk x) (zo : zonesOk x.rings.length zs) (hz : z < zs.length) :
    Calls Tryz.prog 61 #[.pointer (some ⟨q, o, none⟩), vz, .int .i64 (z : Int)] w fun e w' => e = .returned (.int .i64 (mostV x zs z : Nat)) ∧ Below w.heap.size w w' := by
  have H := Lib.hid h
  have H1 := Lib.hid h1
  obtain ⟨az, cz, rfl, hz1, hz2, _⟩ := id h1
  have HOK := Lib.hid ok; have HZO := Lib.hid zo
  have hl8 := zo.1.2
  have hl1 := zo.1.1
  have HNM := Lib.hid hn
  obtain ⟨i0, hi, hi0, hi1, hi2⟩ := info_parts info_int
  clear hz1 hz2 h h1 ok zo hn
  go_enter Tryz.func61, Tryz.ntmps61
  go_wp2_with fail
  go_loopw [7, 8, 9] (fun nv _ _ wr => ∃ (n : Nat), n ≤ 20 ∧ nv = .int .i64 (n : Int) ∧ mostFrom x zs z (20 - n) n = mostV x zs z ∧ Below w.heap.size w wr) (fun nv _ _ _ => 20 - (intOf nv).toNat)
  case atStart => exact ⟨0, Nat.zero_le _, by go_num, rfl, Below.refl _ _⟩
  case round =>
    obtain ⟨n, hn, rfl, hm, hb⟩ := hrel
    have HM := Lib.hid hm
    have HB := Lib.hid hb
    have hz := hb.size
    clear hm hb
    by_cases hlt : n < 20
    · have hle : (n : Int) + 1 ≤ 20 := by omega
      have hltI : (n : Int) < 20 := by omega
      go_wp2_with (at_make; refine wpList_make_full _ rfl _ _ 22 rfl wr.heap.size 2 i0 (.int .i64 0) 1 Tryz.underlying22 hi hi0 hi1 _ _ _ _ 8 rfl rfl rfl rfl (by rw [hi2]; omega) (by unfold maxLen; omega) (Nat.le_refl _) ?_)
      intro w2 hown hgrow
      have hb2 : Below wr.heap.size wr w2 := (Below.refl _ _).grown hgrow (Nat.le_refl _) (by simp)
      have BX := Lib.hid (makeBox hown)
      have HB2 := Lib.hid (HB.out.trans (hb2.mono HB.out.size))
      have s2 := hb2.size
      clear hown hgrow hb2
      have b0 : w2.cell? ⟨wr.heap.size, z, none⟩ = some (.int .i64 0) := BX.out.at' z (.int .i64 0) (by rw [List.getElem?_replicate, if_pos (by omega)])
      have b1 := BX.out.fr z
      have b2 := BX.out.lt
      have hz8 : z < 8 := by omega
      have hz8I : (z : Int) < 8 := by omega
      have w2' : IntKind.i64.wrap ((n : Int) + 1) = (n : Int) + 1 := IntWalk.i64_in _ (by omega)
      have BX2 := BX.out.set (j := z) (.int .i64 ((n : Int) + 1)) (by simp; omega)
      rw [← oneL_cells] at BX2
      have HX := Lib.hid (Ints.of_box (cap := 8) BX2 (oneL_len _ _ _) (Nat.le_refl _) (by unfold maxLen; omega))
      clear BX2
      go_wp2_with fail
      obtain ⟨w3, hw3⟩ : ∃ w3, w3 = w2.setCell ⟨wr.heap.size, z, none⟩ (.int .i64 ((n : Int) + 1)) := ⟨_, rfl⟩
      rw [← hw3] at HX ⊢
      have t3 : Touch wr.heap.size (wr.heap.size + 1) w2 w3 := by rw [hw3]; exact (Touch.refl _ _ _).setCell (p := ⟨wr.heap.size, z, none⟩) ⟨Nat.le_refl _, Nat.lt_succ_self _⟩ _
      have HB3 := Lib.hid (t3.below HB2.out (by omega) HB2.out.size)
      clear b0 b1 b2 hw3 t3
      refine (l09Turned_any q o x _ zs _ (oneL 8 z ((n : Int) + 1)) _ (H.out.mono HB3.out) (Ints.mono H1.out HB3.out) HX.out HOK.out hl1 (by rw [oneL_len]; exact hl8) (fun y hy => oneL_bd (by omega) (by omega) hle)).mono ?_
      rintro e w4 ⟨a4, c4, rfl, hr4, hb4, _⟩
      have HR := Lib.hid (rdTurn hr4 (oneL_turn hl1 hl8 x))
      have HB4 := Lib.hid (HB3.out.trans (hb4.mono HB3.out.size))
      clear hr4 hb4
      obtain ⟨b, hbb⟩ : ∃ b, b = decide (prfOk (turnP x zs (oneZ z ((n : Int) + 1)))) := ⟨_, rfl⟩
      have HBB := Lib.hid hbb
      clear hbb
      go_wp2_with fail
      have PI : PrfIn (w4.alloc (.cells #[.string x.name, .slice a4 x.rings.length c4] 42)) w4.heap.size 0 (turnP x zs (oneZ z ((n : Int) + 1))) a4 c4 := by
        have B := Box.alloc w4 [.string x.name, .slice a4 x.rings.length c4] 42 _ rfl
        have hL : (turnP x zs (oneZ z ((n : Int) + 1))).rings.length = x.rings.length := turnV_len
        obtain ⟨lv, e1, hlv⟩ := HR.out.mono (belowA w4 (.cells #[.string x.name, .slice a4 x.rings.length c4] 42))
        cases e1
        exact ⟨B.lt, B.at' 0 _ rfl, by rw [hL]; exact B.at' 1 _ rfl, by rw [hL]; exact hlv⟩
      refine (l05Ok_any b w4.heap.size 0 (turnP x zs (oneZ z ((n : Int) + 1))) _ PI HNM.out HBB.out).mono ?_
      rintro e w5 ⟨rfl, hq5⟩
      have HB5 := Lib.hid (HB4.out.trans (((belowA w4 (.cells #[.string x.name, .slice a4 x.rings.length c4] 42)).trans (hq5.below w4.heap.size)).mono HB4.out.size))
      clear hq5 PI
      have w3' : IntKind.i64.wrap ((n : Int) + 1) = ((n + 1 : Nat) : Int) := by rw [Int.natCast_add]; exact IntWalk.i64_in _ (by omega)
      clear w2'
      cases b
      · have hno : ¬ prfOk (turnP x zs (oneZ z ((n : Int) + 1))) := of_decide_eq_false HBB.out.symm
        have HE := Lib.hid (show mostV x zs z = n by rw [← HM.out, show 20 - n = (20 - (n + 1)) + 1 by omega, most_no hno])
        clear hno
        go_wp2
        go_ret
        exact ⟨by rw [HE.out]; rfl, HB5.out⟩
      · have hyes : prfOk (turnP x zs (oneZ z ((n : Int) + 1))) := of_decide_eq_true HBB.out.symm
        have HE := Lib.hid (show mostFrom x zs z (20 - (n + 1)) (n + 1) = mostV x zs z by rw [← HM.out, show 20 - n = (20 - (n + 1)) + 1 by omega, most_yes hyes])
        clear hyes
        go_wp2
        go_roundw
        case rel => exact ⟨n + 1, by omega, rfl, HE.out, HB5.out⟩
        case measure => simp [intOf]; omega
    · obtain rfl : n = 20 := by omega
      have HE := Lib.hid (show mostV x zs z = 20 by rw [← HM.out]; rfl)
      go_wp2
      go_ret
      exact ⟨by rw [HE.out]; rfl, HB.out⟩
end Go.Proofs.YtenedpboehkmjaaGreat
/- Walls of zones: contract of l08Walls. -/
set_option linter.unusedSimpArgs false
set_option linter.unnecessarySimpa false
set_option linter.unusedVariables false
set_option maxRecDepth 100000
namespace Go.Proofs.YtenedpboehkmjaaGreat
open Go.RowKit

set_option maxHeartbeats 2000000 in
theorem l08Walls_any (q o : Nat) (x : PrfD) (vz : Value) (zs : List Int) (w : World) {a : Option Addr} {c : Nat} (h : PrfIn w q o x a c) (h1 : Ints w vz zs) (ok : prfOk x) (zo : zonesOk x.rings.length zs) :
    Calls Tryz.prog 87 #[.pointer (some ⟨q, o, none⟩), vz] w fun e w' => ∃ v', e = .returned v' ∧ OwnInts w.heap.size w'.heap.size w' v' (walls x.rings zs) ∧ Below w.heap.size w w' := by
  have H := Lib.hid h
  have H1 := Lib.hid h1
  obtain ⟨az, cz, rfl, hz1, hz2, _⟩ := id h1
  have HOK := Lib.hid ok; have HZO := Lib.hid zo
  have hl8 := zo.1.2
  have hl32 := ok.2.1.2
  clear hz1 hz2 h h1 ok zo
  go_enter Tryz.func87, Tryz.ntmps87
  go_wp2_with fail
  go_loopw [5, 6, 7, 8, 9] (fun ov iv _ _ _ wr => ∃ (k : Nat) (a' : Option Addr) (c' : Nat), k ≤ zs.length ∧ iv = .int .i64 (k : Int) ∧ ov = .slice a' k c' ∧ wr.ownsRow w.heap.size 2 1 (.slice a' k c') k (((walls x.rings zs).take k).map (Value.int .i64)) ∧ Below w.heap.size w wr) (fun _ iv _ _ _ _ => zs.length - (intOf iv).toNat)
  case atStart => exact ⟨0, some ⟨w.heap.size, 0, none⟩, 0, Nat.zero_le _, by go_num, rfl, by simpa using owns_empty w 2 1 _ (Nat.le_refl _), by (repeat (first | with_reducible exact Below.refl _ _ | with_reducible exact hbw | (with_reducible refine Below.setCell ?_ ?_ _; rotate_left; · first | exact Nat.le_refl _ | omega | (simp; done) | (simp; omega)) | (with_reducible refine Below.alloc ?_ ?_ _; rotate_left; · first | exact Nat.le_refl _ | omega | (simp; done) | (simp; omega)) | with_reducible refine below_drewN ?_ _ | with_reducible refine Below.drew ?_))⟩
  case round =>
    obtain ⟨k, a', c', hk, rfl, rfl, ho, hb⟩ := hrel
    have HO := Lib.hid ho; have HB := Lib.hid hb
    have hz := hb.size
    have HI := Lib.hid (H.out.mono hb)
    have c1 := HI.out.c1
    have l0 := HI.out.lt
    clear ho hb
    by_cases hlt : k < zs.length
    · obtain ⟨b1, o1, rfl, k1⟩ := (Ints.mono H1.out HB.out).cells (by simp; omega)
      have d1 := k1 k (.int .i64 (zs.getD k 0)) (by simp [hlt])
      have hbd := zone_bd HZO.out hlt
      obtain ⟨f, hf⟩ : ∃ f : Nat, zs.getD k 0 = (f : Int) := Int.eq_ofNat_of_zero_le hbd.1
      obtain ⟨t, ht⟩ : ∃ t : Nat, zEnd x.rings.length zs k = (t : Int) := Int.eq_ofNat_of_zero_le (by omega)
      rw [hf] at d1 hbd
      rw [ht] at hbd
      have HF := Lib.hid hf
      have HT := Lib.hid ht
      have wk : IntKind.i64.wrap ((k : Int) + 1) = (k : Int) + 1 := IntWalk.i64_in _ (by omega)
      by_cases g : k + 1 < zs.length
      · have d2 := k1 (k + 1) (.int .i64 (zs.getD (k + 1) 0)) (by simp [g])
        rw [show zs.getD (k + 1) 0 = (t : Int) by rw [← HT.out]; exact (if_pos g).symm] at d2
        have g' : (k : Int) + 1 < (zs.length : Int) := by omega
        have g'' : decide ((k : Int) + 1 < (zs.length : Int)) = true := decide_eq_true g'
        have tn : ((k : Int) + 1).toNat = k + 1 := by omega
        have g0 : (0 : Int) ≤ (k : Int) + 1 := by omega
        clear hf ht k1
        go_wp2_with fail
        go_loopw [8, 9] (fun sv iv wr2 => ∃ d : Nat, d ≤ (t) - f ∧ iv = .int .i64 ((f + d : Nat) : Int) ∧ sv = .int .i64 (zsum x.rings f (f + d)) ∧ ∃ n, wr2 = wr.drewN n) (fun _ iv _ => (t) - (intOf iv).toNat)
        case atStart => exact ⟨0, Nat.zero_le _, by go_num, by rw [Nat.add_zero, zsum_self], Q.refl _⟩
        case round =>
          obtain ⟨d, hd, rfl, rfl, n, rfl⟩ := hrel
          obtain ⟨wo, hwo⟩ : ∃ wo, wo = wr.drewN n := ⟨_, rfl⟩
          rw [← hwo]
          have hbo : Below wr.heap.size wr wo := by rw [hwo]; exact Below.drawN n
          have HI2 := Lib.hid (HI.out.mono hbo)
          have c1 := HI2.out.c1
          have l0 := HI2.out.lt
          have HWO := Lib.hid hwo
          have HBO := Lib.hid hbo
          clear hwo hbo
          by_cases hdt : d < (t) - f
          · have hI : f + d < x.rings.length := by omega
            have hc1 : ((f + d : Nat) : Int) < ((t) : Int) := by omega
            have hc2 : decide (((f + d : Nat) : Int) < ((t) : Int)) = true := decide_eq_true hc1
            obtain ⟨b2, o2, rfl, hB, d0, d1, d2⟩ := HI2.out.r.at hI
            have hrk := HOK.out.2.2.1 (f + d) hI
            have gr := rg_at hI
            have hsn := zsum_next (a := f) hI
            have hsb := zsum_bd (a := f) (fun i hi => (HOK.out.2.2.1 i hi).1) d (by omega)
            have hwb := hrk.1
            rw [gr] at hwb hsn
            obtain ⟨⟨q1, q2⟩, ⟨q3, q4⟩, _⟩ := hwb
            obtain ⟨s0, hs0⟩ : ∃ s0, s0 = zsum x.rings f (f + d) := ⟨_, rfl⟩
            obtain ⟨ix, hix⟩ : ∃ ix, ix = f + d := ⟨_, rfl⟩
            rw [← hs0] at hsn hsb ⊢
            have w0' : IntKind.i64.wrap (x.rings[f + d].outer - x.rings[f + d].inner) = x.rings[f + d].outer - x.rings[f + d].inner := IntWalk.i64_in _ (by omega)
            have w1' : IntKind.i64.wrap (s0 + (x.rings[f + d].outer - x.rings[f + d].inner)) = s0 + (x.rings[f + d].outer - x.rings[f + d].inner) := IntWalk.i64_in _ (by omega)
            have HSN := Lib.hid hsn
            clear hrk gr hsn hsb q1 q2 q3 q4 hs0
            go_wp2
            go_quiet (fail)
            go_wp2
            go_roundw
            case rel => exact ⟨d + 1, by omega, by go_num, by rw [← Nat.add_assoc, HSN.out]; rfl, _, by rw [HWO.out, World.drewN_drewN]⟩
            case measure => simp [intOf]; omega
          · obtain rfl : d = (t) - f := by omega
            have hft : f + ((t) - f) = (t) := by omega
            rw [hft]
            have hc1 : ¬ (((t) : Nat) : Int) < ((t) : Int) := by omega
            have hsb := zsum_bd (a := f) (fun i hi => (HOK.out.2.2.1 i hi).1) ((t) - f) (by omega)
            rw [hft] at hsb
            obtain ⟨s0, hs0⟩ : ∃ s0, s0 = zsum x.rings f (t) := ⟨_, rfl⟩
            rw [← hs0] at hsb ⊢
            obtain ⟨r0, hr0⟩ : ∃ r0, r0 = wallAt x.rings zs k := ⟨_, rfl⟩
            have HN := Lib.hid (show r0 = near s0 (((t) : Int) - f) by rw [hr0, hs0]; unfold wallAt; rw [HF.out, HT.out]; rfl)
            have HW := Lib.hid (walls_take x.rings zs hlt)
            rw [← hr0] at HW
            have w1' : IntKind.i64.wrap (((t) : Int) - f) = ((t) : Int) - f := IntWalk.i64_in _ (by omega)
            have d3 := cellB HBO.out d1
            have HO2 := Lib.hid (owns_mono HO.out HBO.out)
            have HBX := Lib.hid (HB.out.trans (HBO.out.mono HB.out.size))
            have hzx := HBX.out.size
            clear hs0 hr0
            go_wp2_with fail
            refine (l01Div_any r0 s0 (((t) : Int) - f) _ HN.out (by omega) (by omega) (by omega) (by omega)).mono ?_
            rintro e w4 ⟨rfl, rfl⟩
            go_wp2_with (at_builtin; refine append_one_at rfl _ _ 22 rfl w.heap.size 2 (.int .i64 0) 1 8 Tryz.underlying22 info_int rfl (by decide) _ k _ rfl HO2.out [.int .i64 r0] rfl (by simp [Value.oneCell']) w4.heap.size rfl rfl (by omega) (by decide) (by omega) ?_)
            intro a7 c7 w7 ho7 hg7 hb7 _
            have HO7 := Lib.hid ho7
            have HB7 := Lib.hid (HBX.out.trans hb7)
            clear ho7 hg7 hb7
            go_wp2
            go_roundw
            case rel => exact ⟨k + 1, a7, c7, by omega, by go_num, rfl, by rw [HW.out]; simpa using HO7.out, HB7.out⟩
            case measure => simp [intOf]; omega
      · have g' : ¬ (k : Int) + 1 < (zs.length : Int) := by omega
        have g'' : decide ((k : Int) + 1 < (zs.length : Int)) = false := decide_eq_false g'
        have ht2 : x.rings.length = t := by have := HT.out; unfold zEnd at this; rw [if_neg g] at this; omega
        subst ht2
        clear hf ht k1
        go_wp2_with fail
        go_loopw [8, 9] (fun sv iv wr2 => ∃ d : Nat, d ≤ (x.rings.length) - f ∧ iv = .int .i64 ((f + d : Nat) : Int) ∧ sv = .int .i64 (zsum x.rings f (f + d)) ∧ ∃ n, wr2 = wr.drewN n) (fun _ iv _ => (x.rings.length) - (intOf iv).toNat)
        case atStart => exact ⟨0, Nat.zero_le _, by go_num, by rw [Nat.add_zero, zsum_self], Q.refl _⟩
        case round =>
          obtain ⟨d, hd, rfl, rfl, n, rfl⟩ := hrel
          obtain ⟨wo, hwo⟩ : ∃ wo, wo = wr.drewN n := ⟨_, rfl⟩
          rw [← hwo]
          have hbo : Below wr.heap.size wr wo := by rw [hwo]; exact Below.drawN n
          have HI2 := Lib.hid (HI.out.mono hbo)
          have c1 := HI2.out.c1
          have l0 := HI2.out.lt
          have HWO := Lib.hid hwo
          have HBO := Lib.hid hbo
          clear hwo hbo
          by_cases hdt : d < (x.rings.length) - f
          · have hI : f + d < x.rings.length := by omega
            have hc1 : ((f + d : Nat) : Int) < ((x.rings.length) : Int) := by omega
            have hc2 : decide (((f + d : Nat) : Int) < ((x.rings.length) : Int)) = true := decide_eq_true hc1
            obtain ⟨b2, o2, rfl, hB, d0, d1, d2⟩ := HI2.out.r.at hI
            have hrk := HOK.out.2.2.1 (f + d) hI
            have gr := rg_at hI
            have hsn := zsum_next (a := f) hI
            have hsb := zsum_bd (a := f) (fun i hi => (HOK.out.2.2.1 i hi).1) d (by omega)
            have hwb := hrk.1
            rw [gr] at hwb hsn
            obtain ⟨⟨q1, q2⟩, ⟨q3, q4⟩, _⟩ := hwb
            obtain ⟨s0, hs0⟩ : ∃ s0, s0 = zsum x.rings f (f + d) := ⟨_, rfl⟩
            obtain ⟨ix, hix⟩ : ∃ ix, ix = f + d := ⟨_, rfl⟩
            rw [← hs0] at hsn hsb ⊢
            have w0' : IntKind.i64.wrap (x.rings[f + d].outer - x.rings[f + d].inner) = x.rings[f + d].outer - x.rings[f + d].inner := IntWalk.i64_in _ (by omega)
            have w1' : IntKind.i64.wrap (s0 + (x.rings[f + d].outer - x.rings[f + d].inner)) = s0 + (x.rings[f + d].outer - x.rings[f + d].inner) := IntWalk.i64_in _ (by omega)
            have HSN := Lib.hid hsn
            clear hrk gr hsn hsb q1 q2 q3 q4 hs0
            go_wp2
            go_quiet (fail)
            go_wp2
            go_roundw
            case rel => exact ⟨d + 1, by omega, by go_num, by rw [← Nat.add_assoc, HSN.out]; rfl, _, by rw [HWO.out, World.drewN_drewN]⟩
            case measure => simp [intOf]; omega
          · obtain rfl : d = (x.rings.length) - f := by omega
            have hft : f + ((x.rings.length) - f) = (x.rings.length) := by omega
            rw [hft]
            have hc1 : ¬ (((x.rings.length) : Nat) : Int) < ((x.rings.length) : Int) := by omega
            have hsb := zsum_bd (a := f) (fun i hi => (HOK.out.2.2.1 i hi).1) ((x.rings.length) - f) (by omega)
            rw [hft] at hsb
            obtain ⟨s0, hs0⟩ : ∃ s0, s0 = zsum x.rings f (x.rings.length) := ⟨_, rfl⟩
            rw [← hs0] at hsb ⊢
            obtain ⟨r0, hr0⟩ : ∃ r0, r0 = wallAt x.rings zs k := ⟨_, rfl⟩
            have HN := Lib.hid (show r0 = near s0 (((x.rings.length) : Int) - f) by rw [hr0, hs0]; unfold wallAt; rw [HF.out, HT.out]; rfl)
            have HW := Lib.hid (walls_take x.rings zs hlt)
            rw [← hr0] at HW
            have w1' : IntKind.i64.wrap (((x.rings.length) : Int) - f) = ((x.rings.length) : Int) - f := IntWalk.i64_in _ (by omega)
            have d3 := cellB HBO.out d1
            have HO2 := Lib.hid (owns_mono HO.out HBO.out)
            have HBX := Lib.hid (HB.out.trans (HBO.out.mono HB.out.size))
            have hzx := HBX.out.size
            clear hs0 hr0
            go_wp2_with fail
            refine (l01Div_any r0 s0 (((x.rings.length) : Int) - f) _ HN.out (by omega) (by omega) (by omega) (by omega)).mono ?_
            rintro e w4 ⟨rfl, rfl⟩
            go_wp2_with (at_builtin; refine append_one_at rfl _ _ 22 rfl w.heap.size 2 (.int .i64 0) 1 8 Tryz.underlying22 info_int rfl (by decide) _ k _ rfl HO2.out [.int .i64 r0] rfl (by simp [Value.oneCell']) w4.heap.size rfl rfl (by omega) (by decide) (by omega) ?_)
            intro a7 c7 w7 ho7 hg7 hb7 _
            have HO7 := Lib.hid ho7
            have HB7 := Lib.hid (HBX.out.trans hb7)
            clear ho7 hg7 hb7
            go_wp2
            go_roundw
            case rel => exact ⟨k + 1, a7, c7, by omega, by go_num, rfl, by rw [HW.out]; simpa using HO7.out, HB7.out⟩
            case measure => simp [intOf]; omega
    · obtain rfl : k = zs.length := by omega
      go_wp2
      go_ret
      exact ⟨_, rfl, OwnInts.mk' (by rw [walls_len]; have := HO.out; rw [List.take_of_length_le (by rw [walls_len]; exact Nat.le_refl _)] at this; exact this), HB.out⟩
end Go.Proofs.YtenedpboehkmjaaGreat
