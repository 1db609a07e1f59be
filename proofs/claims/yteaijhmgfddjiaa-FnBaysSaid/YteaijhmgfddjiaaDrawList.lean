/- The reference's draw of a list of castings. -/
import Derived.Test.YteaijhmgfddjiaaDrawBay
set_option linter.unusedSimpArgs false
set_option linter.unnecessarySimpa false
set_option linter.unusedVariables false
set_option maxRecDepth 100000
namespace Go.Proofs.Yteaijhmgfddjiaa
open Go.RowKit

theorem owns_step {w w' : World} {base K size n : Nat} {e : TypeId} {v : Value} {cs : List Value} (h : w.ownsRow base e size v n cs) (hb : Below K w w') (hk : ∀ g, v.ownBlock = some g → g < K) : w'.ownsRow base e size v n cs := by
  refine ⟨h.1, ?_⟩
  rcases h.2 with h2 | ⟨g, c, cur, rfl, h3, h4, rest⟩
  · exact .inl h2
  · exact .inr ⟨g, c, cur, rfl, h3, (hb.block g (hk g rfl)).trans h4, rest⟩
/-- The state of a draw of castings. -/
structure CSt (w0 w W : World) (p n m : Nat) (cv : Value) (xs : List CasD) (a : Option Addr) (c : Nat) : Prop where
  src : Src w0 W p cv m
  touch : Touch p (p + 1) w W
  row : W.ownsRow w.heap.size 41 5 (.slice a xs.length c) xs.length (xs.flatMap CasD.cells)
  sm : ∀ x ∈ xs, smC x
section
variable {w0 w W W' : World} {p n m m' : Nat} {cv : Value} {xs : List CasD} {a : Option Addr} {c : Nat}
theorem CSt.draw (h : CSt w0 w W p n m cv xs a c) (hp : p < w.heap.size) (hs : Src w0 W' p cv m') (ht : Touch p (p + 1) W W') : CSt w0 w W' p n m' cv xs a c :=
  ⟨hs, h.touch.trans ht, owns_touch h.row ht (by omega), h.sm⟩
theorem CSt.mono (h : CSt w0 w W p n m cv xs a c) (hb : Below W.heap.size W W') : CSt w0 w W' p n m cv xs a c :=
  ⟨h.src.mono hb, h.touch.step hb h.touch.size, owns_mono h.row hb, h.sm⟩
/-- Memory from block K on may change; the row lies below. -/
theorem CSt.step {K : Nat} (h : CSt w0 w W p n m cv xs a c) (hp : p < w.heap.size) (hb : Below K W W') (hw : w.heap.size ≤ K) (hk : ∀ g, (Value.slice a xs.length c).ownBlock = some g → g < K) : CSt w0 w W' p n m cv xs a c :=
  ⟨h.src.step (by omega) hb, h.touch.step hb hw, owns_step h.row hb hk, h.sm⟩
end
theorem sm_snoc {xs : List CasD} {x : CasD} (h : ∀ y ∈ xs, smC y) (hx : smC x) : ∀ y ∈ xs ++ [x], smC y := fun y hy => by
  rcases List.mem_append.1 hy with hy | hy
  · exact h y hy
  · rw [List.mem_singleton.1 hy]; exact hx
theorem row_snoc {w : World} {base n : Nat} {e : TypeId} {a : Option Addr} {c : Nat} {xs : List CasD} {x : CasD} (h : w.ownsRow base e 5 (.slice a (xs.length + 1) c) (xs.length + 1) (xs.flatMap CasD.cells ++ [.string x.bell, .int .i64 x.radius, .int .i64 x.depth, .int .i64 x.thick, .int .i64 x.since])) : w.ownsRow base e 5 (.slice a (xs ++ [x]).length c) (xs ++ [x]).length ((xs ++ [x]).flatMap CasD.cells) := by
  rw [List.length_append, List.flatMap_append]; exact h
/-- The list that is made anew: its row lies from block K on. -/
structure Nxt (W : World) (K : Nat) (ys : List CasD) (a : Option Addr) (c : Nat) : Prop where
  row : W.ownsRow K 41 5 (.slice a ys.length c) ys.length (ys.flatMap CasD.cells)
  sm : ∀ x ∈ ys, smC x
def Listed (w0 w : World) (p n : Nat) (cv : Value) (e : Ending) (w' : World) : Prop := ∃ (xs : List CasD) (a : Option Addr) (c m : Nat), e = .returned (.slice a xs.length c) ∧ CSt w0 w w' p n m cv xs a c ∧ xs.length ≤ 14 ∧ n ≤ m ∧ m ≤ n + 200

set_option maxHeartbeats 4000000 in
theorem l16DrawList_any (w0 : World) (p n : Nat) (cv : Value) (bs : List Int) (w : World) (h0 : Byts w0 cv bs) (ok : okByts bs) (h : Src w0 w p cv n) (hn : n ≤ 700000000) :
    Calls Try.prog 30 #[.pointer (some ⟨p, 0, none⟩)] w (Listed w0 w p n cv) := by
  have HS := Lib.hid h
  have hlt := h.lt
  have hlow := h.low
  clear h
  go_enter Try.func30, Try.ntmps30
  go_wp2_with fail
  have HB0 := Lib.hid (show CSt w0 w (w.alloc (.cells #[] 41)) p n n cv [] (some ⟨w.heap.size, 0, none⟩) 0 from ⟨HS.out.mono (belowA _ _), (Touch.refl _ _ _).alloc _, owns_empty w 41 5 _ (Nat.le_refl _), fun x hx => by cases hx⟩)
  refine (pick_any w0 p n cv bs 6 _ h0 ok HB0.out.src (by omega) (by omega) (by omega)).mono ?_
  rintro e w1 ⟨k1, m1, rfl, k10, k11, m10, m11, hs, ht⟩
  have HB1 := Lib.hid (HB0.out.draw hlt hs ht)
  clear hs ht HB0
  go_wp2_with fail
  go_loopw [3, 4] (fun sv kv wr => ∃ (k : Int) (xs : List CasD) (a : Option Addr) (c m : Nat), sv = .slice a xs.length c ∧ kv = .int .i64 k ∧ 0 ≤ k ∧ (xs.length : Int) + k ≤ 6 ∧ n ≤ m ∧ (m : Int) + 25 * k ≤ n + 150 ∧ CSt w0 w wr p n m cv xs a c) (fun _ kv _ => (intOf kv).toNat)
  case atStart => exact ⟨k1, [], _, _, m1, rfl, rfl, k10, by simp; omega, m10, by omega, HB1.out⟩
  case round =>
    clear HB1
    obtain ⟨k, xs, a, c, m, rfl, rfl, hk0, hk1, hm0, hm1, hC⟩ := hrel
    have HC := Lib.hid hC
    have hzr := hC.touch.size
    clear hC
    by_cases hk : 0 < k
    · go_wp2_with fail
      refine (l16DrawOne_any w0 p m cv bs _ h0 ok HC.out.src (by omega)).mono ?_
      rintro e u2 ⟨x, m2, rfl, smx, m20, m21, hs, ht⟩
      have HC2 := Lib.hid (HC.out.draw hlt hs ht)
      have HSX := Lib.hid smx
      have hzu := ht.size
      clear hs ht smx HC
      obtain ⟨q, hq⟩ : ∃ q, q = u2.heap.size := ⟨_, rfl⟩
      have HNE := Lib.hid (show ∀ g, (Value.slice a xs.length c).ownBlock = some g → g < q from fun g hg => by have := (HC2.out.row.lt g hg).2; omega)
      go_wp2_with fail
      obtain ⟨W1, hW1⟩ : ∃ W1, W1 = (u2.alloc (.cells #[.string x.bell, .int .i64 x.radius, .int .i64 x.depth, .int .i64 x.thick, .int .i64 x.since] 41)).alloc (.cells #[] 41) := ⟨_, rfl⟩
      rw [← hW1]
      have BQ1 := Lib.hid (show Box W1 q [.string x.bell, .int .i64 x.radius, .int .i64 x.depth, .int .i64 x.thick, .int .i64 x.since] by rw [hW1]; exact (Box.alloc u2 _ _ q hq.symm).mono (belowA _ _))
      have HC1 := Lib.hid (show CSt w0 w W1 p n m2 cv xs a c by rw [hW1]; exact (HC2.out.mono (belowA _ _)).mono (belowA _ _))
      have HN1 := Lib.hid (show Nxt W1 (q + 1) [] (some ⟨q + 1, 0, none⟩) 0 from ⟨by rw [hW1]; have := owns_empty (u2.alloc (.cells #[.string x.bell, .int .i64 x.radius, .int .i64 x.depth, .int .i64 x.thick, .int .i64 x.since] 41)) 41 5 (q + 1) (by simp; omega); simpa [hq] using this, fun x hx => by cases hx⟩)
      have HZ1 := Lib.hid (show q + 1 ≤ W1.heap.size by rw [hW1]; simp; omega)
      have hqw : w.heap.size ≤ q := by omega
      have hxl : xs.length ≤ 5 := by omega
      subst hq
      clear hW1 HC2
      go_loopw [6, 7, 8] (fun nv dv iv wi => ∃ (i : Nat) (d : Bool) (ys : List CasD) (a2 : Option Addr) (c2 : Nat), nv = .slice a2 ys.length c2 ∧ dv = .bool d ∧ iv = .int .i64 (i : Int) ∧ i ≤ xs.length ∧ ys.length ≤ i + 1 ∧ (d = false → ys.length ≤ i) ∧ Nxt wi (u2.heap.size + 1) ys a2 c2 ∧ Box wi u2.heap.size [.string x.bell, .int .i64 x.radius, .int .i64 x.depth, .int .i64 x.thick, .int .i64 x.since] ∧ CSt w0 w wi p n m2 cv xs a c ∧ u2.heap.size + 1 ≤ wi.heap.size) (fun _ _ iv _ => xs.length - (intOf iv).toNat)
      case atStart => exact ⟨0, false, [], _, _, rfl, rfl, by go_num, Nat.zero_le _, by simp, fun _ => Nat.le_refl _, HN1.out, BQ1.out, HC1.out, HZ1.out⟩
      case round =>
        clear HN1 BQ1 HC1 HZ1
        obtain ⟨i, d, ys, a2, c2, rfl, rfl, rfl, hi, hy1, hy0, hN, hQ, hC, hZ⟩ := hrel
        have HN := Lib.hid hN; have BQ := Lib.hid hQ; have HC := Lib.hid hC; have HZ := Lib.hid hZ; have HY := Lib.hid hy0
        clear hN hQ hC hZ hy0
        by_cases hl : i < xs.length
        · obtain ⟨b1, o1, e1, _⟩ := (show RdCasDs wr (.slice a xs.length c) xs from Sl.of_owns HC.out.row).at hl
          subst e1
          cases d
          · have hy0 : ys.length ≤ i := HY.out (by simp)
            by_cases gl : Go.Op.bytesLess xs[i].bell.toList x.bell.toList = true
            · skip
              have bq := BQ.out
              have z0 := bq.at' 0 _ rfl
              have z1 := bq.at' 1 _ rfl
              have z2 := bq.at' 2 _ rfl
              have z3 := bq.at' 3 _ rfl
              have z4 := bq.at' 4 _ rfl
              have lz := bq.lt
              clear bq
              obtain ⟨b9, o9, e9, hA⟩ := (show RdCasDs wr (.slice (some ⟨b1, o1, none⟩) xs.length c) xs from Sl.of_owns HC.out.row).at hl
              simp only [Option.some.injEq, Addr.mk.injEq, and_true] at e9
              obtain ⟨rfl, rfl⟩ := e9
              obtain ⟨lA, y0, y1, y2, y3, y4⟩ := hA
              go_wp2_with fail
              go_quiet (fail)
              clear z0 z1 z2 z3 z4 lz lA y0 y1 y2 y3 y4 gl
              obtain ⟨wA, hgen⟩ : ∃ wG : World, wG = wr.drewN nq := ⟨_, rfl⟩
              have hbd := Below.drawN (w := wr) nq
              rw [← hgen] at hbd ⊢
              have BQ := Lib.hid (BQ.out.mono hbd)
              have HC := Lib.hid (HC.out.mono hbd)
              have HN := Lib.hid (show Nxt wA (u2.heap.size + 1) _ _ _ from ⟨owns_mono HN.out.row hbd, HN.out.sm⟩)
              have HZ := Lib.hid (show u2.heap.size + 1 ≤ wA.heap.size by have := HZ.out; have := hbd.size; omega)
              clear hbd hgen
              by_cases gn : xs[i].bell.toList = x.bell.toList
              · have dn : (xs[i].bell.toList != x.bell.toList) = false := by simpa using gn
                have bq := BQ.out
                have z0 := bq.at' 0 _ rfl
                have z1 := bq.at' 1 _ rfl
                have z2 := bq.at' 2 _ rfl
                have z3 := bq.at' 3 _ rfl
                have z4 := bq.at' 4 _ rfl
                have lz := bq.lt
                clear bq
                obtain ⟨b9, o9, e9, hA⟩ := (show RdCasDs wA (.slice (some ⟨b1, o1, none⟩) xs.length c) xs from Sl.of_owns HC.out.row).at hl
                simp only [Option.some.injEq, Addr.mk.injEq, and_true] at e9
                obtain ⟨rfl, rfl⟩ := e9
                obtain ⟨lA, y0, y1, y2, y3, y4⟩ := hA
                go_wp2_with fail
                go_quiet (fail)
                clear z0 z1 z2 z3 z4 lz lA y0 y1 y2 y3 y4
                obtain ⟨wB, hgen⟩ : ∃ wG : World, wG = wA.drewN nq := ⟨_, rfl⟩
                have hbd := Below.drawN (w := wA) nq
                rw [← hgen] at hbd ⊢
                have BQ := Lib.hid (BQ.out.mono hbd)
                have HC := Lib.hid (HC.out.mono hbd)
                have HN := Lib.hid (show Nxt wB (u2.heap.size + 1) _ _ _ from ⟨owns_mono HN.out.row hbd, HN.out.sm⟩)
                have HZ := Lib.hid (show u2.heap.size + 1 ≤ wB.heap.size by have := HZ.out; have := hbd.size; omega)
                clear hbd hgen
                go_wp2
                go_roundw
                case rel => exact ⟨i + 1, false, ys, _, _, rfl, rfl, by go_num, by omega, by omega, (fun _ => by omega), HN.out, BQ.out, HC.out, HZ.out⟩
                case measure => simp [intOf]; omega
              · have dn : (xs[i].bell.toList == x.bell.toList) = false := by simpa using gn
                have bq := BQ.out
                have z0 := bq.at' 0 _ rfl
                have z1 := bq.at' 1 _ rfl
                have z2 := bq.at' 2 _ rfl
                have z3 := bq.at' 3 _ rfl
                have z4 := bq.at' 4 _ rfl
                have lz := bq.lt
                clear bq
                obtain ⟨b9, o9, e9, hA⟩ := (show RdCasDs wA (.slice (some ⟨b1, o1, none⟩) xs.length c) xs from Sl.of_owns HC.out.row).at hl
                simp only [Option.some.injEq, Addr.mk.injEq, and_true] at e9
                obtain ⟨rfl, rfl⟩ := e9
                obtain ⟨lA, y0, y1, y2, y3, y4⟩ := hA
                go_wp2_with fail
                go_quiet (fail)
                clear z0 z1 z2 z3 z4 lz lA y0 y1 y2 y3 y4
                obtain ⟨wB, hgen⟩ : ∃ wG : World, wG = wA.drewN nq := ⟨_, rfl⟩
                have hbd := Below.drawN (w := wA) nq
                rw [← hgen] at hbd ⊢
                have BQ := Lib.hid (BQ.out.mono hbd)
                have HC := Lib.hid (HC.out.mono hbd)
                have HN := Lib.hid (show Nxt wB (u2.heap.size + 1) _ _ _ from ⟨owns_mono HN.out.row hbd, HN.out.sm⟩)
                have HZ := Lib.hid (show u2.heap.size + 1 ≤ wB.heap.size by have := HZ.out; have := hbd.size; omega)
                clear hbd hgen
                obtain ⟨b9, o9, e9, hA⟩ := (show RdCasDs wB (.slice (some ⟨b1, o1, none⟩) xs.length c) xs from Sl.of_owns HC.out.row).at hl
                simp only [Option.some.injEq, Addr.mk.injEq, and_true] at e9
                obtain ⟨rfl, rfl⟩ := e9
                obtain ⟨lA, y0, y1, y2, y3, y4⟩ := hA
                go_wp2_with (at_builtin; refine append_one_at rfl _ _ 25 rfl (u2.heap.size + 1) 41 (.agg #[.string ⟨#[]⟩, .int .i64 0, .int .i64 0, .int .i64 0, .int .i64 0]) 5 48 Try.underlying25 info_Casting rfl (by decide) _ ys.length _ rfl HN.out.row [.string xs[i].bell, .int .i64 xs[i].radius, .int .i64 xs[i].depth, .int .i64 xs[i].thick, .int .i64 xs[i].since] rfl (by simp [Value.oneCell']) wB.heap.size rfl rfl (by omega) (by decide) HZ.out ?_)
                intro a7 c7 w7 ho7 hg7 hb7 _
                have hz7 := hb7.size
                have hK : w.heap.size ≤ u2.heap.size + 1 := by omega
                have BQ := Lib.hid (BQ.out.step hb7 (Nat.lt_succ_self _))
                have HC := Lib.hid (HC.out.step hlt hb7 hK (fun g hg => by have := HNE.out g hg; omega))
                have HN := Lib.hid (show Nxt w7 (u2.heap.size + 1) (ys ++ [xs[i]]) a7 c7 from ⟨row_snoc (n := 0) ho7, sm_snoc HN.out.sm (HC.out.sm _ (List.getElem_mem hl))⟩)
                have HZ := Lib.hid (show u2.heap.size + 1 ≤ w7.heap.size by have := HZ.out; omega)
                clear ho7 hg7 hb7 hK
                clear lA y0 y1 y2 y3 y4
                go_wp2
                go_roundw
                case rel => exact ⟨i + 1, false, ys ++ [xs[i]], a7, c7, by simp, rfl, by go_num, by omega, by simp; omega, (fun _ => by simp; omega), HN.out, BQ.out, HC.out, HZ.out⟩
                case measure => simp [intOf]; omega
            · have gl' : Go.Op.bytesLess xs[i].bell.toList x.bell.toList = false := by simpa using gl
              clear gl
              have bq := BQ.out
              have z0 := bq.at' 0 _ rfl
              have z1 := bq.at' 1 _ rfl
              have z2 := bq.at' 2 _ rfl
              have z3 := bq.at' 3 _ rfl
              have z4 := bq.at' 4 _ rfl
              have lz := bq.lt
              clear bq
              obtain ⟨b9, o9, e9, hA⟩ := (show RdCasDs wr (.slice (some ⟨b1, o1, none⟩) xs.length c) xs from Sl.of_owns HC.out.row).at hl
              simp only [Option.some.injEq, Addr.mk.injEq, and_true] at e9
              obtain ⟨rfl, rfl⟩ := e9
              obtain ⟨lA, y0, y1, y2, y3, y4⟩ := hA
              go_wp2_with fail
              go_quiet (fail)
              clear z0 z1 z2 z3 z4 lz lA y0 y1 y2 y3 y4 gl'
              obtain ⟨wA, hgen⟩ : ∃ wG : World, wG = wr.drewN nq := ⟨_, rfl⟩
              have hbd := Below.drawN (w := wr) nq
              rw [← hgen] at hbd ⊢
              have BQ := Lib.hid (BQ.out.mono hbd)
              have HC := Lib.hid (HC.out.mono hbd)
              have HN := Lib.hid (show Nxt wA (u2.heap.size + 1) _ _ _ from ⟨owns_mono HN.out.row hbd, HN.out.sm⟩)
              have HZ := Lib.hid (show u2.heap.size + 1 ≤ wA.heap.size by have := HZ.out; have := hbd.size; omega)
              clear hbd hgen
              have bq := BQ.out
              have z0 := bq.at' 0 _ rfl
              have z1 := bq.at' 1 _ rfl
              have z2 := bq.at' 2 _ rfl
              have z3 := bq.at' 3 _ rfl
              have z4 := bq.at' 4 _ rfl
              have lz := bq.lt
              clear bq
              go_wp2_with (at_builtin; refine append_one_at rfl _ _ 25 rfl (u2.heap.size + 1) 41 (.agg #[.string ⟨#[]⟩, .int .i64 0, .int .i64 0, .int .i64 0, .int .i64 0]) 5 48 Try.underlying25 info_Casting rfl (by decide) _ ys.length _ rfl HN.out.row [.string x.bell, .int .i64 x.radius, .int .i64 x.depth, .int .i64 x.thick, .int .i64 x.since] rfl (by simp [Value.oneCell']) wA.heap.size rfl rfl (by omega) (by decide) HZ.out ?_)
              intro a7 c7 w7 ho7 hg7 hb7 _
              have hz7 := hb7.size
              have hK : w.heap.size ≤ u2.heap.size + 1 := by omega
              have BQ := Lib.hid (BQ.out.step hb7 (Nat.lt_succ_self _))
              have HC := Lib.hid (HC.out.step hlt hb7 hK (fun g hg => by have := HNE.out g hg; omega))
              have HN := Lib.hid (show Nxt w7 (u2.heap.size + 1) (ys ++ [x]) a7 c7 from ⟨row_snoc (n := 0) ho7, sm_snoc HN.out.sm HSX.out⟩)
              have HZ := Lib.hid (show u2.heap.size + 1 ≤ w7.heap.size by have := HZ.out; omega)
              clear ho7 hg7 hb7 hK
              clear z0 z1 z2 z3 z4 lz
              obtain ⟨zs, hzs⟩ : ∃ zs, zs = ys ++ [x] := ⟨_, rfl⟩
              have hzl : zs.length = ys.length + 1 := by rw [hzs]; simp
              rw [← hzs] at HN
              rw [show ys.length + 1 = zs.length from hzl.symm]
              have HZL := Lib.hid (show zs.length ≤ i + 1 by omega)
              clear hzl hzs
              have hzi := HZL.out
              go_wp2_with fail
              by_cases gn : xs[i].bell.toList = x.bell.toList
              · have dn : (xs[i].bell.toList != x.bell.toList) = false := by simpa using gn
                have bq := BQ.out
                have z0 := bq.at' 0 _ rfl
                have z1 := bq.at' 1 _ rfl
                have z2 := bq.at' 2 _ rfl
                have z3 := bq.at' 3 _ rfl
                have z4 := bq.at' 4 _ rfl
                have lz := bq.lt
                clear bq
                obtain ⟨b9, o9, e9, hA⟩ := (show RdCasDs w7 (.slice (some ⟨b1, o1, none⟩) xs.length c) xs from Sl.of_owns HC.out.row).at hl
                simp only [Option.some.injEq, Addr.mk.injEq, and_true] at e9
                obtain ⟨rfl, rfl⟩ := e9
                obtain ⟨lA, y0, y1, y2, y3, y4⟩ := hA
                go_wp2_with fail
                go_quiet (fail)
                clear z0 z1 z2 z3 z4 lz lA y0 y1 y2 y3 y4
                obtain ⟨wB, hgen⟩ : ∃ wG : World, wG = w7.drewN nq := ⟨_, rfl⟩
                have hbd := Below.drawN (w := w7) nq
                rw [← hgen] at hbd ⊢
                have BQ := Lib.hid (BQ.out.mono hbd)
                have HC := Lib.hid (HC.out.mono hbd)
                have HN := Lib.hid (show Nxt wB (u2.heap.size + 1) _ _ _ from ⟨owns_mono HN.out.row hbd, HN.out.sm⟩)
                have HZ := Lib.hid (show u2.heap.size + 1 ≤ wB.heap.size by have := HZ.out; have := hbd.size; omega)
                clear hbd hgen
                go_wp2
                go_roundw
                case rel => exact ⟨i + 1, true, zs, _, _, rfl, rfl, by go_num, by omega, by omega, (fun h => by cases h), HN.out, BQ.out, HC.out, HZ.out⟩
                case measure => simp [intOf]; omega
              · have dn : (xs[i].bell.toList == x.bell.toList) = false := by simpa using gn
                have bq := BQ.out
                have z0 := bq.at' 0 _ rfl
                have z1 := bq.at' 1 _ rfl
                have z2 := bq.at' 2 _ rfl
                have z3 := bq.at' 3 _ rfl
                have z4 := bq.at' 4 _ rfl
                have lz := bq.lt
                clear bq
                obtain ⟨b9, o9, e9, hA⟩ := (show RdCasDs w7 (.slice (some ⟨b1, o1, none⟩) xs.length c) xs from Sl.of_owns HC.out.row).at hl
                simp only [Option.some.injEq, Addr.mk.injEq, and_true] at e9
                obtain ⟨rfl, rfl⟩ := e9
                obtain ⟨lA, y0, y1, y2, y3, y4⟩ := hA
                go_wp2_with fail
                go_quiet (fail)
                clear z0 z1 z2 z3 z4 lz lA y0 y1 y2 y3 y4
                obtain ⟨wB, hgen⟩ : ∃ wG : World, wG = w7.drewN nq := ⟨_, rfl⟩
                have hbd := Below.drawN (w := w7) nq
                rw [← hgen] at hbd ⊢
                have BQ := Lib.hid (BQ.out.mono hbd)
                have HC := Lib.hid (HC.out.mono hbd)
                have HN := Lib.hid (show Nxt wB (u2.heap.size + 1) _ _ _ from ⟨owns_mono HN.out.row hbd, HN.out.sm⟩)
                have HZ := Lib.hid (show u2.heap.size + 1 ≤ wB.heap.size by have := HZ.out; have := hbd.size; omega)
                clear hbd hgen
                obtain ⟨b9, o9, e9, hA⟩ := (show RdCasDs wB (.slice (some ⟨b1, o1, none⟩) xs.length c) xs from Sl.of_owns HC.out.row).at hl
                simp only [Option.some.injEq, Addr.mk.injEq, and_true] at e9
                obtain ⟨rfl, rfl⟩ := e9
                obtain ⟨lA, y0, y1, y2, y3, y4⟩ := hA
                go_wp2_with (at_builtin; refine append_one_at rfl _ _ 25 rfl (u2.heap.size + 1) 41 (.agg #[.string ⟨#[]⟩, .int .i64 0, .int .i64 0, .int .i64 0, .int .i64 0]) 5 48 Try.underlying25 info_Casting rfl (by decide) _ zs.length _ rfl HN.out.row [.string xs[i].bell, .int .i64 xs[i].radius, .int .i64 xs[i].depth, .int .i64 xs[i].thick, .int .i64 xs[i].since] rfl (by simp [Value.oneCell']) wB.heap.size rfl rfl (by omega) (by decide) HZ.out ?_)
                intro a7 c7 w7 ho7 hg7 hb7 _
                have hz7 := hb7.size
                have hK : w.heap.size ≤ u2.heap.size + 1 := by omega
                have BQ := Lib.hid (BQ.out.step hb7 (Nat.lt_succ_self _))
                have HC := Lib.hid (HC.out.step hlt hb7 hK (fun g hg => by have := HNE.out g hg; omega))
                have HN := Lib.hid (show Nxt w7 (u2.heap.size + 1) (zs ++ [xs[i]]) a7 c7 from ⟨row_snoc (n := 0) ho7, sm_snoc HN.out.sm (HC.out.sm _ (List.getElem_mem hl))⟩)
                have HZ := Lib.hid (show u2.heap.size + 1 ≤ w7.heap.size by have := HZ.out; omega)
                clear ho7 hg7 hb7 hK
                clear lA y0 y1 y2 y3 y4
                go_wp2
                go_roundw
                case rel => exact ⟨i + 1, true, zs ++ [xs[i]], a7, c7, by simp, rfl, by go_num, by omega, by simp; omega, (fun h => by cases h), HN.out, BQ.out, HC.out, HZ.out⟩
                case measure => simp [intOf]; omega
          · skip
            have bq := BQ.out
            have z0 := bq.at' 0 _ rfl
            have z1 := bq.at' 1 _ rfl
            have z2 := bq.at' 2 _ rfl
            have z3 := bq.at' 3 _ rfl
            have z4 := bq.at' 4 _ rfl
            have lz := bq.lt
            clear bq
            obtain ⟨b9, o9, e9, hA⟩ := (show RdCasDs wr (.slice (some ⟨b1, o1, none⟩) xs.length c) xs from Sl.of_owns HC.out.row).at hl
            simp only [Option.some.injEq, Addr.mk.injEq, and_true] at e9
            obtain ⟨rfl, rfl⟩ := e9
            obtain ⟨lA, y0, y1, y2, y3, y4⟩ := hA
            go_wp2_with fail
            go_quiet (fail)
            clear z0 z1 z2 z3 z4 lz lA y0 y1 y2 y3 y4
            obtain ⟨wA, hgen⟩ : ∃ wG : World, wG = wr.drewN nq := ⟨_, rfl⟩
            have hbd := Below.drawN (w := wr) nq
            rw [← hgen] at hbd ⊢
            have BQ := Lib.hid (BQ.out.mono hbd)
            have HC := Lib.hid (HC.out.mono hbd)
            have HN := Lib.hid (show Nxt wA (u2.heap.size + 1) _ _ _ from ⟨owns_mono HN.out.row hbd, HN.out.sm⟩)
            have HZ := Lib.hid (show u2.heap.size + 1 ≤ wA.heap.size by have := HZ.out; have := hbd.size; omega)
            clear hbd hgen
            by_cases gn : xs[i].bell.toList = x.bell.toList
            · have dn : (xs[i].bell.toList != x.bell.toList) = false := by simpa using gn
              have bq := BQ.out
              have z0 := bq.at' 0 _ rfl
              have z1 := bq.at' 1 _ rfl
              have z2 := bq.at' 2 _ rfl
              have z3 := bq.at' 3 _ rfl
              have z4 := bq.at' 4 _ rfl
              have lz := bq.lt
              clear bq
              obtain ⟨b9, o9, e9, hA⟩ := (show RdCasDs wA (.slice (some ⟨b1, o1, none⟩) xs.length c) xs from Sl.of_owns HC.out.row).at hl
              simp only [Option.some.injEq, Addr.mk.injEq, and_true] at e9
              obtain ⟨rfl, rfl⟩ := e9
              obtain ⟨lA, y0, y1, y2, y3, y4⟩ := hA
              go_wp2_with fail
              go_quiet (fail)
              clear z0 z1 z2 z3 z4 lz lA y0 y1 y2 y3 y4
              obtain ⟨wB, hgen⟩ : ∃ wG : World, wG = wA.drewN nq := ⟨_, rfl⟩
              have hbd := Below.drawN (w := wA) nq
              rw [← hgen] at hbd ⊢
              have BQ := Lib.hid (BQ.out.mono hbd)
              have HC := Lib.hid (HC.out.mono hbd)
              have HN := Lib.hid (show Nxt wB (u2.heap.size + 1) _ _ _ from ⟨owns_mono HN.out.row hbd, HN.out.sm⟩)
              have HZ := Lib.hid (show u2.heap.size + 1 ≤ wB.heap.size by have := HZ.out; have := hbd.size; omega)
              clear hbd hgen
              go_wp2
              go_roundw
              case rel => exact ⟨i + 1, true, ys, _, _, rfl, rfl, by go_num, by omega, by omega, (fun h => by cases h), HN.out, BQ.out, HC.out, HZ.out⟩
              case measure => simp [intOf]; omega
            · have dn : (xs[i].bell.toList == x.bell.toList) = false := by simpa using gn
              have bq := BQ.out
              have z0 := bq.at' 0 _ rfl
              have z1 := bq.at' 1 _ rfl
              have z2 := bq.at' 2 _ rfl
              have z3 := bq.at' 3 _ rfl
              have z4 := bq.at' 4 _ rfl
              have lz := bq.lt
              clear bq
              obtain ⟨b9, o9, e9, hA⟩ := (show RdCasDs wA (.slice (some ⟨b1, o1, none⟩) xs.length c) xs from Sl.of_owns HC.out.row).at hl
              simp only [Option.some.injEq, Addr.mk.injEq, and_true] at e9
              obtain ⟨rfl, rfl⟩ := e9
              obtain ⟨lA, y0, y1, y2, y3, y4⟩ := hA
              go_wp2_with fail
              go_quiet (fail)
              clear z0 z1 z2 z3 z4 lz lA y0 y1 y2 y3 y4
              obtain ⟨wB, hgen⟩ : ∃ wG : World, wG = wA.drewN nq := ⟨_, rfl⟩
              have hbd := Below.drawN (w := wA) nq
              rw [← hgen] at hbd ⊢
              have BQ := Lib.hid (BQ.out.mono hbd)
              have HC := Lib.hid (HC.out.mono hbd)
              have HN := Lib.hid (show Nxt wB (u2.heap.size + 1) _ _ _ from ⟨owns_mono HN.out.row hbd, HN.out.sm⟩)
              have HZ := Lib.hid (show u2.heap.size + 1 ≤ wB.heap.size by have := HZ.out; have := hbd.size; omega)
              clear hbd hgen
              obtain ⟨b9, o9, e9, hA⟩ := (show RdCasDs wB (.slice (some ⟨b1, o1, none⟩) xs.length c) xs from Sl.of_owns HC.out.row).at hl
              simp only [Option.some.injEq, Addr.mk.injEq, and_true] at e9
              obtain ⟨rfl, rfl⟩ := e9
              obtain ⟨lA, y0, y1, y2, y3, y4⟩ := hA
              go_wp2_with (at_builtin; refine append_one_at rfl _ _ 25 rfl (u2.heap.size + 1) 41 (.agg #[.string ⟨#[]⟩, .int .i64 0, .int .i64 0, .int .i64 0, .int .i64 0]) 5 48 Try.underlying25 info_Casting rfl (by decide) _ ys.length _ rfl HN.out.row [.string xs[i].bell, .int .i64 xs[i].radius, .int .i64 xs[i].depth, .int .i64 xs[i].thick, .int .i64 xs[i].since] rfl (by simp [Value.oneCell']) wB.heap.size rfl rfl (by omega) (by decide) HZ.out ?_)
              intro a7 c7 w7 ho7 hg7 hb7 _
              have hz7 := hb7.size
              have hK : w.heap.size ≤ u2.heap.size + 1 := by omega
              have BQ := Lib.hid (BQ.out.step hb7 (Nat.lt_succ_self _))
              have HC := Lib.hid (HC.out.step hlt hb7 hK (fun g hg => by have := HNE.out g hg; omega))
              have HN := Lib.hid (show Nxt w7 (u2.heap.size + 1) (ys ++ [xs[i]]) a7 c7 from ⟨row_snoc (n := 0) ho7, sm_snoc HN.out.sm (HC.out.sm _ (List.getElem_mem hl))⟩)
              have HZ := Lib.hid (show u2.heap.size + 1 ≤ w7.heap.size by have := HZ.out; omega)
              clear ho7 hg7 hb7 hK
              clear lA y0 y1 y2 y3 y4
              go_wp2
              go_roundw
              case rel => exact ⟨i + 1, true, ys ++ [xs[i]], a7, c7, by simp, rfl, by go_num, by omega, by simp; omega, (fun h => by cases h), HN.out, BQ.out, HC.out, HZ.out⟩
              case measure => simp [intOf]; omega
        · obtain rfl : i = xs.length := by omega
          cases d
          · have hy0 := HY.out (by simp)
            have bq := BQ.out
            have z0 := bq.at' 0 _ rfl
            have z1 := bq.at' 1 _ rfl
            have z2 := bq.at' 2 _ rfl
            have z3 := bq.at' 3 _ rfl
            have z4 := bq.at' 4 _ rfl
            have lz := bq.lt
            clear bq
            go_wp2_with (at_builtin; refine append_one_at rfl _ _ 25 rfl (u2.heap.size + 1) 41 (.agg #[.string ⟨#[]⟩, .int .i64 0, .int .i64 0, .int .i64 0, .int .i64 0]) 5 48 Try.underlying25 info_Casting rfl (by decide) _ ys.length _ rfl HN.out.row [.string x.bell, .int .i64 x.radius, .int .i64 x.depth, .int .i64 x.thick, .int .i64 x.since] rfl (by simp [Value.oneCell']) wr.heap.size rfl rfl (by omega) (by decide) HZ.out ?_)
            intro a7 c7 w7 ho7 hg7 hb7 _
            have hz7 := hb7.size
            have hK : w.heap.size ≤ u2.heap.size + 1 := by omega
            have BQ := Lib.hid (BQ.out.step hb7 (Nat.lt_succ_self _))
            have HC := Lib.hid (HC.out.step hlt hb7 hK (fun g hg => by have := HNE.out g hg; omega))
            have HN := Lib.hid (show Nxt w7 (u2.heap.size + 1) (ys ++ [x]) a7 c7 from ⟨row_snoc (n := 0) ho7, sm_snoc HN.out.sm HSX.out⟩)
            have HZ := Lib.hid (show u2.heap.size + 1 ≤ w7.heap.size by have := HZ.out; omega)
            clear ho7 hg7 hb7 hK
            clear z0 z1 z2 z3 z4 lz
            have HCF := Lib.hid (show CSt w0 w w7 p n m2 cv (ys ++ [x]) a7 c7 from ⟨HC.out.src, HC.out.touch, owns_base HN.out.row (by omega), HN.out.sm⟩)
            go_wp2
            go_roundw
            case rel => exact ⟨k - 1, ys ++ [x], a7, c7, m2, by simp, by go_num, by omega, by simp; omega, by omega, by omega, HCF.out⟩
            case measure => simp [intOf]; omega
          · have HCF := Lib.hid (show CSt w0 w wr p n m2 cv ys a2 c2 from ⟨HC.out.src, HC.out.touch, owns_base HN.out.row (by omega), HN.out.sm⟩)
            go_wp2
            go_roundw
            case rel => exact ⟨k - 1, ys, a2, c2, m2, by simp, by go_num, by omega, by omega, by omega, by omega, HCF.out⟩
            case measure => simp [intOf]; omega
    · have hk0' : k = 0 := by omega
      subst hk0'
      have hm150 : m ≤ n + 150 := by omega
      cases xs with
      | nil =>
        have HT := HC
        clear HC
        go_wp2_with fail
        refine (one_any w0 p m cv bs 24 _ h0 ok HT.out.src (by omega) (by omega) (by omega)).mono ?_
        rintro e w5 ⟨b5, m5, rfl, m50, m51, hs, ht⟩
        have HT5 := Lib.hid (HT.out.draw hlt hs ht)
        clear hs ht HT
        cases b5
        · go_wp2
          go_ret
          exact ⟨([] : List CasD), _, _, m5, rfl, HT5.out, (by first | omega | (simp; omega) | simp), by omega, by omega⟩
        · go_wp2_with fail
          refine (among_lit w0 p m5 cv bs [12, 13] 2 w5.heap.size w5 h0 ok HT5.out.src (by omega) rfl rfl (by simp) (by simp)).mono ?_
          rintro e u6 ⟨r, m6, rfl, rh, m60, m61, hs, ht⟩
          have hr : 1 ≤ r ∧ r ≤ 13 := by simp only [List.mem_cons, List.not_mem_nil, or_false] at rh; omega
          have hT6 := HT5.out.touch.trans ht
          have hwz := hT6.size
          have HC6 := Lib.hid (show CSt w0 w (u6.alloc (.cells #[] 41)) p n m6 cv [] (some ⟨u6.heap.size, 0, none⟩) 0 from ⟨hs.mono (belowA _ _), hT6.alloc _, owns_base (owns_empty u6 41 5 _ (Nat.le_refl _)) hwz, fun x hx => by cases hx⟩)
          clear hs ht rh hT6 HT5
          go_wp2_with fail
          go_loopw [3, 10] (fun sv jv wr => ∃ (ys : List CasD) (a : Option Addr) (c : Nat), sv = .slice a ys.length c ∧ jv = .int .i64 (ys.length : Int) ∧ (ys.length : Int) ≤ r ∧ CSt w0 w wr p n m6 cv ys a c) (fun _ jv _ => (r - intOf jv).toNat)
          case atStart => exact ⟨[], _, _, rfl, by go_num, by simp; omega, HC6.out⟩
          case round =>
            clear HC6
            obtain ⟨zs, a, c, rfl, rfl, hyr, hB⟩ := hrel
            have HB := Lib.hid hB
            have hwzr := hB.touch.size
            clear hB
            by_cases hl : (zs.length : Int) < r
            · have wr1 : IntKind.i64.wrap (97 + (zs.length : Int)) = 97 + (zs.length : Int) := IntWalk.i64_in _ (by omega)
              have wr3 : IntKind.i64.wrap (600 * (zs.length : Int)) = 600 * (zs.length : Int) := IntWalk.i64_in _ (by omega)
              obtain ⟨b, hb⟩ := byte_of (k := 97 + (zs.length : Int)) (by omega) (by omega)
              have wr2 : IntKind.u8.wrap (97 + (zs.length : Int)) = 97 + (zs.length : Int) := by rw [← hb]; have := b.toNat_lt; simp [IntKind.wrap, IntKind.bits, IntKind.signed]; omega
              have hconv := run_convert_bytes_back (P := Try.prog) (wr.alloc (.cells #[.int .u8 (97 + (zs.length : Int))] 5)) 22 9 5 ⟨wr.heap.size, 0, none⟩ 1 [b] Try.underlying22 Try.underlying5 Try.underlying9 (fun i hi => by
                obtain rfl : i = 0 := by simp at hi; exact hi
                rw [Addr.add_lit]
                simp [go_sem, hb])
              simp only [List.length_cons, List.length_nil, Nat.zero_add] at hconv
              have hs1 : ((⟨#[98]⟩ : ByteArray) ++ ⟨#[b]⟩).size = 2 := ByteArray.size_append
              have HS1 := Lib.hid hs1
              clear hb
              have HBA := Lib.hid (HB.out.mono (belowA wr (.cells #[.int .u8 (97 + (zs.length : Int))] 5)))
              go_wp2_with (at_builtin; refine append_one_at rfl _ _ 25 rfl w.heap.size 41 (.agg #[.string ⟨#[]⟩, .int .i64 0, .int .i64 0, .int .i64 0, .int .i64 0]) 5 48 Try.underlying25 info_Casting rfl (by decide) _ zs.length _ rfl HBA.out.row [.string ((⟨#[98]⟩ : ByteArray) ++ ⟨#[b]⟩), .int .i64 9, .int .i64 9, .int .i64 1000, .int .i64 (600 * (zs.length : Int))] rfl (by simp [Value.oneCell']) (wr.heap.size + 1) (by simp) rfl (by omega) (by decide) (by simp; omega) ?_)
              intro a7 c7 w7 ho7 hg7 hb7 _
              have HB7 := Lib.hid (show CSt w0 w w7 p n m6 cv (zs ++ [⟨(⟨#[98]⟩ : ByteArray) ++ ⟨#[b]⟩, 9, 9, 1000, 600 * (zs.length : Int)⟩]) a7 c7 from ⟨HBA.out.src.step hlt hb7, HBA.out.touch.step hb7 (Nat.le_refl _), row_snoc (n := 0) ho7, sm_snoc HBA.out.sm ⟨by rw [HS1.out]; omega, by unfold smB; simp only; omega, by unfold smB; simp only; omega, by unfold smB; simp only; omega, by unfold smB; simp only; omega⟩⟩)
              clear ho7 hg7 hb7 hconv hs1
              go_wp2
              go_roundw
              case rel => exact ⟨zs ++ [⟨(⟨#[98]⟩ : ByteArray) ++ ⟨#[b]⟩, 9, 9, 1000, 600 * (zs.length : Int)⟩], a7, c7, by simp, by simp, by simp; omega, HB7.out⟩
              case measure => simp [intOf]; omega
            · have hl1 : (zs.length : Int) = r := by omega
              go_wp2
              go_ret
              exact ⟨zs, a, c, m6, rfl, HB.out, by omega, by omega, by omega⟩
      | cons x ys =>
        have hyl : ys.length + 1 ≤ 6 := by simp at hk1; omega
        obtain ⟨g, hag, hg⟩ : ∃ g, a = some ⟨g, 0, none⟩ ∧ w.heap.size ≤ g := by
          rcases HC.out.row.2 with ⟨e, _⟩ | ⟨g, cap, cur, e, hb, _⟩
          · simp [Value.slice.injEq] at e
          · simp only [Value.slice.injEq] at e; exact ⟨g, e.1, hb⟩
        subst hag
        go_wp2_with fail
        refine (one_any w0 p m cv bs 12 _ h0 ok HC.out.src (by omega) (by omega) (by omega)).mono ?_
        rintro e w2 ⟨b, m2, rfl, m20, m21, hs, ht⟩
        have HC2 := Lib.hid (HC.out.draw hlt hs ht)
        clear hs ht HC
        cases b
        · have HT := HC2
          clear HC2
          go_wp2_with fail
          refine (one_any w0 p m2 cv bs 24 _ h0 ok HT.out.src (by omega) (by omega) (by omega)).mono ?_
          rintro e w5 ⟨b5, m5, rfl, m50, m51, hs, ht⟩
          have HT5 := Lib.hid (HT.out.draw hlt hs ht)
          clear hs ht HT
          cases b5
          · go_wp2
            go_ret
            exact ⟨(x :: ys), _, _, m5, rfl, HT5.out, (by first | omega | (simp; omega) | simp), by omega, by omega⟩
          · go_wp2_with fail
            refine (among_lit w0 p m5 cv bs [12, 13] 2 w5.heap.size w5 h0 ok HT5.out.src (by omega) rfl rfl (by simp) (by simp)).mono ?_
            rintro e u6 ⟨r, m6, rfl, rh, m60, m61, hs, ht⟩
            have hr : 1 ≤ r ∧ r ≤ 13 := by simp only [List.mem_cons, List.not_mem_nil, or_false] at rh; omega
            have hT6 := HT5.out.touch.trans ht
            have hwz := hT6.size
            have HC6 := Lib.hid (show CSt w0 w (u6.alloc (.cells #[] 41)) p n m6 cv [] (some ⟨u6.heap.size, 0, none⟩) 0 from ⟨hs.mono (belowA _ _), hT6.alloc _, owns_base (owns_empty u6 41 5 _ (Nat.le_refl _)) hwz, fun x hx => by cases hx⟩)
            clear hs ht rh hT6 HT5
            go_wp2_with fail
            go_loopw [3, 10] (fun sv jv wr => ∃ (ys : List CasD) (a : Option Addr) (c : Nat), sv = .slice a ys.length c ∧ jv = .int .i64 (ys.length : Int) ∧ (ys.length : Int) ≤ r ∧ CSt w0 w wr p n m6 cv ys a c) (fun _ jv _ => (r - intOf jv).toNat)
            case atStart => exact ⟨[], _, _, rfl, by go_num, by simp; omega, HC6.out⟩
            case round =>
              clear HC6
              obtain ⟨zs, a, c, rfl, rfl, hyr, hB⟩ := hrel
              have HB := Lib.hid hB
              have hwzr := hB.touch.size
              clear hB
              by_cases hl : (zs.length : Int) < r
              · have wr1 : IntKind.i64.wrap (97 + (zs.length : Int)) = 97 + (zs.length : Int) := IntWalk.i64_in _ (by omega)
                have wr3 : IntKind.i64.wrap (600 * (zs.length : Int)) = 600 * (zs.length : Int) := IntWalk.i64_in _ (by omega)
                obtain ⟨b, hb⟩ := byte_of (k := 97 + (zs.length : Int)) (by omega) (by omega)
                have wr2 : IntKind.u8.wrap (97 + (zs.length : Int)) = 97 + (zs.length : Int) := by rw [← hb]; have := b.toNat_lt; simp [IntKind.wrap, IntKind.bits, IntKind.signed]; omega
                have hconv := run_convert_bytes_back (P := Try.prog) (wr.alloc (.cells #[.int .u8 (97 + (zs.length : Int))] 5)) 22 9 5 ⟨wr.heap.size, 0, none⟩ 1 [b] Try.underlying22 Try.underlying5 Try.underlying9 (fun i hi => by
                  obtain rfl : i = 0 := by simp at hi; exact hi
                  rw [Addr.add_lit]
                  simp [go_sem, hb])
                simp only [List.length_cons, List.length_nil, Nat.zero_add] at hconv
                have hs1 : ((⟨#[98]⟩ : ByteArray) ++ ⟨#[b]⟩).size = 2 := ByteArray.size_append
                have HS1 := Lib.hid hs1
                clear hb
                have HBA := Lib.hid (HB.out.mono (belowA wr (.cells #[.int .u8 (97 + (zs.length : Int))] 5)))
                go_wp2_with (at_builtin; refine append_one_at rfl _ _ 25 rfl w.heap.size 41 (.agg #[.string ⟨#[]⟩, .int .i64 0, .int .i64 0, .int .i64 0, .int .i64 0]) 5 48 Try.underlying25 info_Casting rfl (by decide) _ zs.length _ rfl HBA.out.row [.string ((⟨#[98]⟩ : ByteArray) ++ ⟨#[b]⟩), .int .i64 9, .int .i64 9, .int .i64 1000, .int .i64 (600 * (zs.length : Int))] rfl (by simp [Value.oneCell']) (wr.heap.size + 1) (by simp) rfl (by omega) (by decide) (by simp; omega) ?_)
                intro a7 c7 w7 ho7 hg7 hb7 _
                have HB7 := Lib.hid (show CSt w0 w w7 p n m6 cv (zs ++ [⟨(⟨#[98]⟩ : ByteArray) ++ ⟨#[b]⟩, 9, 9, 1000, 600 * (zs.length : Int)⟩]) a7 c7 from ⟨HBA.out.src.step hlt hb7, HBA.out.touch.step hb7 (Nat.le_refl _), row_snoc (n := 0) ho7, sm_snoc HBA.out.sm ⟨by rw [HS1.out]; omega, by unfold smB; simp only; omega, by unfold smB; simp only; omega, by unfold smB; simp only; omega, by unfold smB; simp only; omega⟩⟩)
                clear ho7 hg7 hb7 hconv hs1
                go_wp2
                go_roundw
                case rel => exact ⟨zs ++ [⟨(⟨#[98]⟩ : ByteArray) ++ ⟨#[b]⟩, 9, 9, 1000, 600 * (zs.length : Int)⟩], a7, c7, by simp, by simp, by simp; omega, HB7.out⟩
                case measure => simp [intOf]; omega
              · have hl1 : (zs.length : Int) = r := by omega
                go_wp2
                go_ret
                exact ⟨zs, a, c, m6, rfl, HB.out, by omega, by omega, by omega⟩
        · go_wp2_with fail
          refine (among_lit w0 p m2 cv bs [0, 30000, 30001] 3 w2.heap.size w2 h0 ok HC2.out.src (by omega) rfl rfl (by simp) (by simp)).mono ?_
          rintro e u3 ⟨r, m3, rfl, rh, m30, m31, hs, ht⟩
          have HR := Lib.hid (show smB r by simp only [List.mem_cons, List.not_mem_nil, or_false] at rh; unfold smB; omega)
          have hB3 := HC2.out.draw hlt hs ht
          have hR := hB3.row
          have d1 : u3.cell? ⟨g, 3, none⟩ = some (.int .i64 x.thick) := by rw [hR.cellAt 3 (by simp; omega)]; rfl
          have f1 := hR.frozenAt 3
          have lg := (hR.lt g rfl).2
          have HT := Lib.hid (show CSt w0 w (u3.setCell ⟨g, 3, none⟩ (.int .i64 r)) p n m3 cv (⟨x.bell, x.radius, x.depth, r, x.since⟩ :: ys) (some ⟨g, 0, none⟩) c from
            ⟨hB3.src.touch ((Touch.refl g (g + 1) u3).setCell (p := ⟨g, 3, none⟩) (by simp) _) (.inl (by omega)) (by omega), hB3.touch.setNew (p := ⟨g, 3, none⟩) hg _, (hR.stored 3 (.int .i64 r)).1, fun y hy => by
              have hx := hB3.sm x (List.mem_cons_self ..)
              rcases List.mem_cons.1 hy with rfl | hy
              · exact ⟨hx.bell, hx.radius, hx.depth, HR.out, hx.since⟩
              · exact hB3.sm y (List.mem_cons_of_mem _ hy)⟩)
          clear hs ht rh hB3 hR HC2
          go_wp2_with fail
          clear d1 f1 lg
          generalize u3.setCell ⟨g, 3, none⟩ (.int .i64 r) = w4 at HT ⊢
          refine (one_any w0 p m3 cv bs 24 _ h0 ok HT.out.src (by omega) (by omega) (by omega)).mono ?_
          rintro e w5 ⟨b5, m5, rfl, m50, m51, hs, ht⟩
          have HT5 := Lib.hid (HT.out.draw hlt hs ht)
          clear hs ht HT
          cases b5
          · go_wp2
            go_ret
            exact ⟨(⟨x.bell, x.radius, x.depth, r, x.since⟩ :: ys), _, _, m5, rfl, HT5.out, (by first | omega | (simp; omega) | simp), by omega, by omega⟩
          · go_wp2_with fail
            refine (among_lit w0 p m5 cv bs [12, 13] 2 w5.heap.size w5 h0 ok HT5.out.src (by omega) rfl rfl (by simp) (by simp)).mono ?_
            rintro e u6 ⟨r, m6, rfl, rh, m60, m61, hs, ht⟩
            have hr : 1 ≤ r ∧ r ≤ 13 := by simp only [List.mem_cons, List.not_mem_nil, or_false] at rh; omega
            have hT6 := HT5.out.touch.trans ht
            have hwz := hT6.size
            have HC6 := Lib.hid (show CSt w0 w (u6.alloc (.cells #[] 41)) p n m6 cv [] (some ⟨u6.heap.size, 0, none⟩) 0 from ⟨hs.mono (belowA _ _), hT6.alloc _, owns_base (owns_empty u6 41 5 _ (Nat.le_refl _)) hwz, fun x hx => by cases hx⟩)
            clear hs ht rh hT6 HT5
            go_wp2_with fail
            go_loopw [3, 10] (fun sv jv wr => ∃ (ys : List CasD) (a : Option Addr) (c : Nat), sv = .slice a ys.length c ∧ jv = .int .i64 (ys.length : Int) ∧ (ys.length : Int) ≤ r ∧ CSt w0 w wr p n m6 cv ys a c) (fun _ jv _ => (r - intOf jv).toNat)
            case atStart => exact ⟨[], _, _, rfl, by go_num, by simp; omega, HC6.out⟩
            case round =>
              clear HC6
              obtain ⟨zs, a, c, rfl, rfl, hyr, hB⟩ := hrel
              have HB := Lib.hid hB
              have hwzr := hB.touch.size
              clear hB
              by_cases hl : (zs.length : Int) < r
              · have wr1 : IntKind.i64.wrap (97 + (zs.length : Int)) = 97 + (zs.length : Int) := IntWalk.i64_in _ (by omega)
                have wr3 : IntKind.i64.wrap (600 * (zs.length : Int)) = 600 * (zs.length : Int) := IntWalk.i64_in _ (by omega)
                obtain ⟨b, hb⟩ := byte_of (k := 97 + (zs.length : Int)) (by omega) (by omega)
                have wr2 : IntKind.u8.wrap (97 + (zs.length : Int)) = 97 + (zs.length : Int) := by rw [← hb]; have := b.toNat_lt; simp [IntKind.wrap, IntKind.bits, IntKind.signed]; omega
                have hconv := run_convert_bytes_back (P := Try.prog) (wr.alloc (.cells #[.int .u8 (97 + (zs.length : Int))] 5)) 22 9 5 ⟨wr.heap.size, 0, none⟩ 1 [b] Try.underlying22 Try.underlying5 Try.underlying9 (fun i hi => by
                  obtain rfl : i = 0 := by simp at hi; exact hi
                  rw [Addr.add_lit]
                  simp [go_sem, hb])
                simp only [List.length_cons, List.length_nil, Nat.zero_add] at hconv
                have hs1 : ((⟨#[98]⟩ : ByteArray) ++ ⟨#[b]⟩).size = 2 := ByteArray.size_append
                have HS1 := Lib.hid hs1
                clear hb
                have HBA := Lib.hid (HB.out.mono (belowA wr (.cells #[.int .u8 (97 + (zs.length : Int))] 5)))
                go_wp2_with (at_builtin; refine append_one_at rfl _ _ 25 rfl w.heap.size 41 (.agg #[.string ⟨#[]⟩, .int .i64 0, .int .i64 0, .int .i64 0, .int .i64 0]) 5 48 Try.underlying25 info_Casting rfl (by decide) _ zs.length _ rfl HBA.out.row [.string ((⟨#[98]⟩ : ByteArray) ++ ⟨#[b]⟩), .int .i64 9, .int .i64 9, .int .i64 1000, .int .i64 (600 * (zs.length : Int))] rfl (by simp [Value.oneCell']) (wr.heap.size + 1) (by simp) rfl (by omega) (by decide) (by simp; omega) ?_)
                intro a7 c7 w7 ho7 hg7 hb7 _
                have HB7 := Lib.hid (show CSt w0 w w7 p n m6 cv (zs ++ [⟨(⟨#[98]⟩ : ByteArray) ++ ⟨#[b]⟩, 9, 9, 1000, 600 * (zs.length : Int)⟩]) a7 c7 from ⟨HBA.out.src.step hlt hb7, HBA.out.touch.step hb7 (Nat.le_refl _), row_snoc (n := 0) ho7, sm_snoc HBA.out.sm ⟨by rw [HS1.out]; omega, by unfold smB; simp only; omega, by unfold smB; simp only; omega, by unfold smB; simp only; omega, by unfold smB; simp only; omega⟩⟩)
                clear ho7 hg7 hb7 hconv hs1
                go_wp2
                go_roundw
                case rel => exact ⟨zs ++ [⟨(⟨#[98]⟩ : ByteArray) ++ ⟨#[b]⟩, 9, 9, 1000, 600 * (zs.length : Int)⟩], a7, c7, by simp, by simp, by simp; omega, HB7.out⟩
                case measure => simp [intOf]; omega
              · have hl1 : (zs.length : Int) = r := by omega
                go_wp2
                go_ret
                exact ⟨zs, a, c, m6, rfl, HB.out, by omega, by omega, by omega⟩

end Go.Proofs.Yteaijhmgfddjiaa
