import Derived.Test.YtemmnjokojgjaaaFfZ6
import Derived.Test.YtemmnjokojgjaaaFfZ1
import Derived.Sort.OwnSortedInts
import Derived.Lib.OwnBridge
import Derived.Deep.QuietTactic
import Derived.BigQuiet
import Derived.Test.YtemmnjokojgjaaaFfZ4
/- Contracts of l00Put, slices.Sort and slices.Compact at []int64. -/
set_option linter.unusedSimpArgs false
set_option linter.unnecessarySimpa false
set_option linter.unusedVariables false
set_option maxRecDepth 100000
namespace Go.Proofs.Ytemmnjokojgjaaa
open Go.RowKit

theorem grown_putRow {w : World} {g n : Nat} (d : Array Int) : w.grownBy (Go.Sort.putRow (Value.int .i64) (Go.Sort.ahead w n) g 0 d) (some g) := by
  refine ⟨rfl, rfl, rfl, by simp [Go.Sort.putRow, Go.Sort.mapBlock, Go.Sort.ahead], fun k hk hne => ?_⟩
  have : g ≠ k := fun e => hne (by rw [e])
  simp [Go.Sort.putRow, Go.Sort.mapBlock, Go.Sort.ahead, Array.getElem?_modify, this]

/-- slices.Compact on a row of the call's own. -/
theorem compactInts_any (v : Value) (base n : Nat) (zs : List Int) (w : World) (hn : n = zs.length) (h : w.ownsRow base 2 1 v n (zs.map (Value.int .i64))) (hs : zs.length ≤ 1000000000) :
    Calls Try.prog 110 #[v] w fun e w' => ∃ v', e = .returned v' ∧ w'.ownsRow base 2 1 v' (Lib.compact zs).length ((Lib.compact zs).map (Value.int .i64)) ∧ w.grownBy w' v.ownBlock ∧ v'.ownBlock = v.ownBlock := by
  subst hn
  rcases h.2 with ⟨rfl, hn⟩ | ⟨g, cap, cur, rfl, hb, hg, h1, h2, h3, h4⟩
  · have hz : zs = [] := List.eq_nil_of_length_eq_zero hn
    subst hz
    have := Try.slices_Compact_int_empty none 0 w
    exact this.mono fun e w' ⟨he, hw⟩ => ⟨_, he, by rw [hw]; exact ⟨by simpa [Lib.compact, Lib.compactUpTo] using h, World.grownBy.refl w _, rfl⟩⟩
  · have hH := Go.holds_of_blockI hg (by rw [Nat.mul_one] at h4; exact h4)
    have := Try.slices_Compact_int g 0 cap zs w hH (by omega) h1
    have hle := Lib.compact_length_le zs
    refine this.mono fun e w' ⟨he, q, hw⟩ => ⟨_, he, ?_, ?_, rfl⟩
    · have hc := Lib.ownsRow_putRow (q := q) (k := (Lib.compact zs).length) (ys := Lib.compact zs ++ List.replicate (zs.length - (Lib.compact zs).length) 0) h (by simp; omega) (by omega)
      rw [List.take_left] at hc
      rw [hw]; exact hc
    · rw [hw]; exact grown_putRow _

set_option maxHeartbeats 2000000 in
theorem l00Put_any (v : Value) (xs : List Int) (n : Int) (w : World) (h : Ints w v xs) (hs : xs.length ≤ 100000000) :
    Calls Try.prog 83 #[v, .int .i64 n] w fun e w' => ∃ v', e = .returned v' ∧ w'.ownsRow w.heap.size 2 1 v' (putI xs n).length ((putI xs n).map (Value.int .i64)) ∧ Below w.heap.size w w' := by
  obtain ⟨a, ca, rfl, _⟩ := id h
  go_enter Try.func83, Try.ntmps83
  go_wp2_with fail
  go_loopw [5, 6, 7] (fun o dn i wr => ∃ (k : Nat) (d : Bool) (ys : List Int) (a' : Option Addr) (c' : Nat), k ≤ xs.length ∧ i = .int .i64 k ∧ dn = .bool d ∧ o = .slice a' ys.length c' ∧ wr.ownsRow w.heap.size 2 1 (.slice a' ys.length c') ys.length (ys.map (Value.int .i64)) ∧ ys.length ≤ k + 1 ∧ (d = false → ys.length ≤ k) ∧ ys ++ (if d = true then xs.drop k else putI (xs.drop k) n) = putI xs n ∧ Below w.heap.size w wr) (fun _ _ i _ => xs.length - (intOf i).toNat)
  case atStart => exact ⟨0, false, [], _, _, Nat.zero_le _, rfl, rfl, rfl, owns_empty w _ 1 _ (Nat.le_refl _), by simp, by simp, by simp, by (repeat (first | with_reducible exact Below.refl _ _ | with_reducible exact hbw | (with_reducible refine Below.setCell ?_ ?_ _; rotate_left; · first | exact Nat.le_refl _ | omega | (simp; done) | (simp; omega)) | (with_reducible refine Below.alloc ?_ ?_ _; rotate_left; · first | exact Nat.le_refl _ | omega | (simp; done) | (simp; omega)) | with_reducible refine below_drewN ?_ _ | with_reducible refine Below.drew ?_))⟩
  case round =>
    obtain ⟨k, d, ys, a1, c1, hk, rfl, rfl, rfl, ho, hyl, hyd, hE', hb⟩ := hrel
    have hE := Lib.hid hE'; clear hE'
    have hsz := hb.size
    by_cases hlt : k < xs.length
    · obtain ⟨b1, o1, rfl, hc⟩ := (h.mono hb).cells (by simp; omega)
      have u0 : wr.cell? ⟨b1, o1 + k, none⟩ = some (.int .i64 xs[k]) := hc k _ (by simp [hlt])
      have hB := World.block_lt_of_cell? _ _ u0
      simp only at hB
      have hB1 : b1 < wr.heap.size + 1 := by omega
      clear hc
      cases d
      · have hyd' := hyd rfl
        by_cases g1 : n ≤ xs[k]
        · have d1 : decide (n ≤ xs[k]) = true := by simpa using g1
          by_cases g2 : n < xs[k]
          · have d2 : decide (n < xs[k]) = true := by simpa using g2
            have HS := Lib.hid (putI_drop hlt n)
            go_wp2_with (at_builtin; refine append_one rfl _ _ 25 rfl w.heap.size 2 (.int .i64 0) 1 8 Try.underlying25 info_int64 rfl (by decide) _ ys.length _ rfl ho [.int .i64 n] rfl (by simp [Value.oneCell']) rfl (by omega) (by decide) hsz ?_)
            intro a' cap' w1 ho1 _ hb1
            have hb2 := hb.trans hb1
            have hsz2 := hb2.size
            obtain ⟨b2, o2, e2, hc2⟩ := (h.mono hb2).cells (by simp; omega)
            cases e2
            have u2 : w1.cell? ⟨b1, o1 + k, none⟩ = some (.int .i64 xs[k]) := hc2 k _ (by simp [hlt])
            have hB2 := World.block_lt_of_cell? _ _ u2
            simp only at hB2
            have hB3 : b1 < w1.heap.size + 1 := by omega
            clear hc2 u0
            go_wp2_with (at_builtin; refine append_one rfl _ _ 25 rfl w.heap.size 2 (.int .i64 0) 1 8 Try.underlying25 info_int64 rfl (by decide) _ (ys.length + 1) _ rfl ho1 [.int .i64 xs[k]] rfl (by simp [Value.oneCell']) rfl (by omega) (by decide) hsz2 ?_)
            intro a' cap' w1 ho1 _ hb1
            go_wp2
            go_roundw
            case rel => exact ⟨k + 1, true, ys ++ [n] ++ [xs[k]], a', cap', by omega, by go_num, rfl, by simp, by simpa using ho1, by simp; omega, by simp, by rw [← hE.out]; simp [HS.out, show n ≤ xs[k] by omega, show n < xs[k] by omega], hb2.trans hb1⟩
            case measure => simp [intOf] <;> omega
          · have d2 : decide (n < xs[k]) = false := by simpa using g2
            have HS := Lib.hid (putI_drop hlt n)
            go_wp2_with (at_builtin; refine append_one rfl _ _ 25 rfl w.heap.size 2 (.int .i64 0) 1 8 Try.underlying25 info_int64 rfl (by decide) _ ys.length _ rfl ho [.int .i64 xs[k]] rfl (by simp [Value.oneCell']) rfl (by omega) (by decide) hsz ?_)
            intro a' cap' w1 ho1 _ hb1
            go_wp2
            go_roundw
            case rel => exact ⟨k + 1, true, ys ++ [xs[k]], a', cap', by omega, by go_num, rfl, by simp, by simpa using ho1, by simp; omega, by simp, by rw [← hE.out]; simp [HS.out, show n ≤ xs[k] by omega, show ¬ n < xs[k] by omega], hb.trans hb1⟩
            case measure => simp [intOf] <;> omega
        · have d1 : decide (n ≤ xs[k]) = false := by simpa using g1
          have HS := Lib.hid (putI_drop hlt n)
          go_wp2_with (at_builtin; refine append_one rfl _ _ 25 rfl w.heap.size 2 (.int .i64 0) 1 8 Try.underlying25 info_int64 rfl (by decide) _ ys.length _ rfl ho [.int .i64 xs[k]] rfl (by simp [Value.oneCell']) rfl (by omega) (by decide) hsz ?_)
          intro a' cap' w1 ho1 _ hb1
          go_wp2
          go_roundw
          case rel => exact ⟨k + 1, false, ys ++ [xs[k]], a', cap', by omega, by go_num, rfl, by simp, by simpa using ho1, by simp; omega, by simp; omega, by rw [← hE.out]; simp [HS.out, show ¬ n ≤ xs[k] by omega], hb.trans hb1⟩
          case measure => simp [intOf] <;> omega
      · have HS := Lib.hid (List.drop_eq_getElem_cons hlt)
        go_wp2_with (at_builtin; refine append_one rfl _ _ 25 rfl w.heap.size 2 (.int .i64 0) 1 8 Try.underlying25 info_int64 rfl (by decide) _ ys.length _ rfl ho [.int .i64 xs[k]] rfl (by simp [Value.oneCell']) rfl (by omega) (by decide) hsz ?_)
        intro a' cap' w1 ho1 _ hb1
        go_wp2
        go_roundw
        case rel => exact ⟨k + 1, true, ys ++ [xs[k]], a', cap', by omega, by go_num, rfl, by simp, by simpa using ho1, by simp; omega, by simp, by rw [← hE.out]; simp only [if_true]; rw [List.append_assoc, HS.out]; rfl, hb.trans hb1⟩
        case measure => simp [intOf] <;> omega
    · obtain rfl : k = xs.length := by omega
      cases d
      · have HS := Lib.hid (show ys ++ [n] = putI xs n by have := hE.out; simpa [putI] using this)
        go_wp2_with (at_builtin; refine append_one rfl _ _ 25 rfl w.heap.size 2 (.int .i64 0) 1 8 Try.underlying25 info_int64 rfl (by decide) _ ys.length _ rfl ho [.int .i64 n] rfl (by simp [Value.oneCell']) rfl (by omega) (by decide) hsz ?_)
        intro a' cap' w1 ho1 _ hb1
        go_wp2
        go_ret
        exact ⟨_, rfl, by rw [← HS.out]; simpa using ho1, hb.trans hb1⟩
      · have HS := Lib.hid (show ys = putI xs n by have := hE.out; simpa using this)
        go_wp2
        go_ret
        exact ⟨_, rfl, by rw [← HS.out]; exact ho, hb⟩

end Go.Proofs.Ytemmnjokojgjaaa
/- The reference's draws of sets, shifts and rests, and of a tune with them. -/
set_option linter.unusedSimpArgs false
set_option linter.unnecessarySimpa false
set_option linter.unusedVariables false
set_option maxRecDepth 100000
namespace Go.Proofs.Ytemmnjokojgjaaa
open Go.RowKit

/-- Sets that can be drawn, right or not. -/
def smS (xs : List Int) : Prop := (∀ x ∈ xs, -200 ≤ x ∧ x ≤ 300) ∧ xs.length ≤ 200
theorem smS_put {xs : List Int} {n : Int} (h : smS xs) (hl : xs.length ≤ 199) (h0 : -200 ≤ n) (h1 : n ≤ 300) : smS (putI xs n) :=
  ⟨fun x hx => by
    rcases (mem_putI _ _ _).1 hx with rfl | hx
    · exact ⟨h0, h1⟩
    · exact h.1 x hx, by have := putI_len xs n; omega⟩
theorem smS_add {xs : List Int} {n : Int} (h : smS xs) (hl : xs.length ≤ 199) (h0 : -200 ≤ n) (h1 : n ≤ 300) : smS (xs ++ [n]) :=
  ⟨fun x hx => by
    rcases List.mem_append.1 hx with hx | hx
    · exact h.1 x hx
    · rw [List.mem_singleton.1 hx]; exact ⟨h0, h1⟩, by simp; omega⟩
theorem smS_nil : smS [] := ⟨(fun x hx => by cases hx), by simp⟩
/-- What a draw of a set leaves. -/
def Sets (w0 w : World) (p n : Nat) (cv : Value) (e : Ending) (w' : World) : Prop := ∃ (v : Value) (xs : List Int) (m : Nat), e = .returned v ∧ OwnInts w.heap.size w'.heap.size w' v xs ∧ smS xs ∧ n ≤ m ∧ m ≤ n + 60 ∧ Src w0 w' p cv m ∧ Touch p (p + 1) w w'

set_option maxHeartbeats 4000000 in
theorem l26DrawSet_any (w0 : World) (p n : Nat) (cv : Value) (bs : List Int) (w : World) (h0 : Byts w0 cv bs) (ok : okByts bs) (h : Src w0 w p cv n) (hn : n ≤ 800000000) :
    Calls Try.prog 57 #[.pointer (some ⟨p, 0, none⟩)] w (Sets w0 w p n cv) := by
  have HS := Lib.hid h
  have hlt := h.lt
  clear h
  go_enter Try.func57, Try.ntmps57
  go_wp2_with fail
  have HT0 := Lib.hid (show Touch p (p + 1) w (w.alloc (.cells #[] 2)) from (Touch.refl _ _ _).alloc _)
  refine (pick_any w0 p n cv bs 14 _ h0 ok (HS.out.mono (belowA _ _)) (by omega) (by omega) (by omega)).mono ?_
  rintro e w1 ⟨kk, m1, rfl, kk0, kk1, m10, m11, hs1, ht1⟩
  have hz1 := ht1.size
  simp at hz1
  have HS1 := Lib.hid hs1
  have HT1 := Lib.hid (HT0.out.trans ht1)
  have HO1 := Lib.hid (owns_touch (owns_empty w 2 1 w.heap.size (Nat.le_refl _)) ht1 (by omega))
  clear hs1 ht1 HS HT0
  go_wp2_with fail
  go_loopw [3, 4] (fun o kv wr => ∃ (j m : Nat) (k : Int) (xs : List Int) (a : Option Addr) (c : Nat), o = .slice a xs.length c ∧ kv = .int .i64 k ∧ 0 ≤ k ∧ (j : Int) + k ≤ 13 ∧ smS xs ∧ xs.length ≤ j ∧ n ≤ m ∧ m ≤ n + 4 + 2 * j ∧ Src w0 wr p cv m ∧ Touch p (p + 1) w wr ∧ wr.ownsRow w.heap.size 2 1 (.slice a xs.length c) xs.length (xs.map (Value.int .i64))) (fun _ kv _ => (intOf kv).toNat)
  case atStart => exact ⟨0, m1, kk, [], _, _, rfl, rfl, kk0, by omega, smS_nil, by simp, m10, by omega, HS1.out, HT1.out, by simpa using HO1.out⟩
  case round =>
    clear HO1 HS1 HT1
    obtain ⟨j, m, k, xs, a, c, rfl, rfl, k0, k1, sm, hxj, hm0, hm1, hs, ht, ho⟩ := hrel
    have SM := Lib.hid sm; have HS := Lib.hid hs; have HT := Lib.hid ht; have HO := Lib.hid ho
    have hzr := ht.size
    clear sm hs ht ho
    by_cases hk : 0 < k
    · have dk : decide (0 < k) = true := by simpa using hk
      go_wp2_with fail
      refine (pick_any w0 p m cv bs 26 _ h0 ok HS.out (by omega) (by omega) (by omega)).mono ?_
      rintro e w2 ⟨r, m2, rfl, r0, r1, m20, m21, hs2, ht2⟩
      have wn : IntKind.i64.wrap (58 + r) = 58 + r := IntWalk.i64_in _ (by omega)
      have wk : IntKind.i64.wrap (k - 1) = k - 1 := IntWalk.i64_in _ (by omega)
      have HO2 := Lib.hid (owns_touch HO.out ht2 (by omega))
      have HT2 := Lib.hid (HT.out.trans ht2)
      have HS2 := Lib.hid hs2
      have hz2 := ht2.size
      clear hs2 ht2
      go_wp2_with fail
      refine (l00Put_any _ xs (58 + r) _ (Ints.of_owns HO2.out) (by omega)).mono ?_
      rintro e w3 ⟨v3, rfl, ho3, hb3⟩
      obtain ⟨a3, c3, rfl⟩ := owns_slice ho3
      have HO3 := Lib.hid (owns_base ho3 (show w.heap.size ≤ w2.heap.size by omega))
      have HT3 := Lib.hid (HT2.out.step hb3 (by omega))
      have HS3 := Lib.hid (HS2.out.mono hb3)
      have hpl := putI_len xs (58 + r)
      have SM3 := Lib.hid (smS_put (n := 58 + r) SM.out (by omega) (by omega) (by omega))
      clear ho3 hb3
      go_wp2
      go_roundw
      case rel => exact ⟨j + 1, m2, k - 1, putI xs (58 + r), a3, c3, rfl, rfl, by omega, by omega, SM3.out, by omega, by omega, by omega, HS3.out, HT3.out, HO3.out⟩
      case measure => simp [intOf] <;> omega
    · have dk : decide (0 < k) = false := by simpa using hk
      have hxl : xs.length ≤ 13 := by omega
      go_wp2_with fail
      refine (pick_any w0 p m cv bs 18 _ h0 ok HS.out (by omega) (by omega) (by omega)).mono ?_
      rintro e w2 ⟨r, m2, rfl, r0, r1, m20, m21, hs2, ht2⟩
      have HO2 := Lib.hid (owns_touch HO.out ht2 (by omega))
      have HT2 := Lib.hid (HT.out.trans ht2)
      have HS2 := Lib.hid hs2
      have hz2 := ht2.size
      have hmm : m2 ≤ n + 40 := by omega
      clear hs2 ht2 HO HT HS dk hk k0 k1
      by_cases e0 : r = 0
      · subst e0
        go_wp2_with fail
        refine (among_lit w0 p m2 cv bs [5, 127, 128] 3 w2.heap.size w2 h0 ok HS2.out (by omega) rfl rfl (by simp) (by simp)).mono ?_
        rintro e w3 ⟨v, m3, rfl, hv, m30, m31, hs3, ht3⟩
        have HV := Lib.hid (show -200 ≤ v ∧ v ≤ 300 by simp only [List.mem_cons, List.not_mem_nil, or_false] at hv; omega)
        have HO3 := Lib.hid (owns_touch HO2.out ht3 (by omega))
        have HT3 := Lib.hid (HT2.out.trans ht3)
        have HS3 := Lib.hid hs3
        have hz3 := ht3.size
        clear hs3 ht3 hv
        go_wp2_with (at_builtin; refine append_one_at rfl _ _ 25 rfl w.heap.size 2 (.int .i64 0) 1 8 Try.underlying25 info_int rfl (by decide) _ xs.length _ rfl HO3.out [.int .i64 v] rfl (by simp [Value.oneCell']) w3.heap.size rfl rfl (by omega) (by decide) (by omega) ?_)
        intro a7 c7 w7 ho7 hg7 hb7 _
        have HO7 := Lib.hid (show w7.ownsRow w.heap.size 2 1 (.slice a7 (xs.length + 1) c7) (xs.length + 1) ((xs ++ [v]).map (Value.int .i64)) by rw [List.map_append]; exact ho7)
        have HT7 := Lib.hid (HT3.out.step hb7 (by omega))
        have HS7 := Lib.hid (HS3.out.step (B := w.heap.size) (by omega) hb7)
        clear ho7 hg7 hb7
        go_wp2
        go_ret
        exact ⟨_, xs ++ [v], m3, rfl, by have := OwnRow.mk' HO7.out; simpa [OwnInts] using this, smS_add SM.out (by omega) HV.out.1 HV.out.2, by omega, by omega, HS7.out, HT7.out⟩
      by_cases e1 : r = 1
      · subst e1
        go_wp2_with fail
        refine (among_lit w0 p m2 cv bs [24, 25] 2 w2.heap.size w2 h0 ok HS2.out (by omega) rfl rfl (by simp) (by simp)).mono ?_
        rintro e w3 ⟨v, m3, rfl, hv, m30, m31, hs3, ht3⟩
        have hv2 : v = 24 ∨ v = 25 := by simpa using hv
        obtain ⟨K, rfl⟩ : ∃ K : Nat, v = (K : Int) := ⟨v.toNat, by omega⟩
        have hK : K ≤ 25 := by omega
        have HT3 := Lib.hid (HT2.out.trans ht3)
        have HS3 := Lib.hid hs3
        have hz3 := ht3.size
        clear hs3 ht3 hv hv2 HO2
        go_wp2_with fail
        go_loopw [3, 6] (fun o iv wq => ∃ (i : Nat) (ys : List Int) (a7 : Option Addr) (c7 : Nat), o = .slice a7 i c7 ∧ iv = .int .i64 (i : Int) ∧ i ≤ K ∧ ys.length = i ∧ smS ys ∧ wq.ownsRow w3.heap.size 2 1 (.slice a7 i c7) i (ys.map (Value.int .i64)) ∧ Below w3.heap.size w3 wq) (fun _ iv _ => K - (intOf iv).toNat)
        case atStart => exact ⟨0, [], _, _, rfl, by go_num, Nat.zero_le _, rfl, smS_nil, by simpa using owns_empty w3 2 1 _ (Nat.le_refl _), belowA _ _⟩
        case round =>
          obtain ⟨i, ys, a7, c7, rfl, rfl, hi, hyl, smy, hoy, hby⟩ := hrel
          have HYL := Lib.hid hyl; have SMY := Lib.hid smy; have HOY := Lib.hid hoy; have HBY := Lib.hid hby
          have hzy := hby.size
          clear hyl smy hoy hby
          by_cases hik : i < K
          · have hik2 : (i : Int) < (K : Int) := by omega
            have w5 : IntKind.i64.wrap (50 + (i : Int)) = 50 + (i : Int) := IntWalk.i64_in _ (by omega)
            go_wp2_with (at_builtin; refine append_one_at rfl _ _ 25 rfl w3.heap.size 2 (.int .i64 0) 1 8 Try.underlying25 info_int rfl (by decide) _ i _ rfl HOY.out [.int .i64 (50 + (i : Int))] rfl (by simp [Value.oneCell']) wr.heap.size rfl rfl (by omega) (by decide) (by omega) ?_)
            intro a8 c8 w8 ho8 hg8 hb8 _
            have HO8 := Lib.hid (show w8.ownsRow w3.heap.size 2 1 (.slice a8 (i + 1) c8) (i + 1) ((ys ++ [50 + (i : Int)]).map (Value.int .i64)) by rw [List.map_append]; exact ho8)
            have HB8 := Lib.hid (HBY.out.trans hb8)
            clear ho8 hg8 hb8
            go_wp2
            go_roundw
            case rel => exact ⟨i + 1, ys ++ [50 + (i : Int)], a8, c8, rfl, by go_num, by omega, by simp [HYL.out], smS_add SMY.out (by rw [HYL.out]; omega) (by omega) (by omega), HO8.out, HB8.out⟩
            case measure => simp [intOf] <;> omega
          · have hik2 : ¬ (i : Int) < (K : Int) := by omega
            go_wp2
            go_ret
            refine ⟨_, ys, m3, rfl, ?_, SMY.out, by omega, by omega, HS3.out.mono HBY.out, HT3.out.step HBY.out (by omega)⟩
            have := (OwnRow.mk' HOY.out).wide (show w.heap.size ≤ w3.heap.size by omega) (Nat.le_refl _)
            unfold OwnInts; rw [HYL.out]; exact this
      by_cases e2 : r = 2
      · subst e2
        go_wp2_with fail
        refine (among_lit w0 p m2 cv bs [-1, 0] 2 w2.heap.size w2 h0 ok HS2.out (by omega) rfl rfl (by simp) (by simp)).mono ?_
        rintro e w3 ⟨v, m3, rfl, hv, m30, m31, hs3, ht3⟩
        have HV := Lib.hid (show -200 ≤ v ∧ v ≤ 300 by simp only [List.mem_cons, List.not_mem_nil, or_false] at hv; omega)
        have HO3 := Lib.hid (owns_touch HO2.out ht3 (by omega))
        have HT3 := Lib.hid (HT2.out.trans ht3)
        have HS3 := Lib.hid hs3
        have hz3 := ht3.size
        have hba := belowA w3 (.cells #[.int .i64 v] 2)
        have HSL := Lib.hid (Sl.mono (Sl.of_owns HO3.out) hba)
        have HW1 := Lib.hid (show (w3.alloc (.cells #[.int .i64 v] 2)).ownsRow w3.heap.size 2 1 (.slice (some ⟨w3.heap.size, 0, none⟩) 1 1) 1 [.int .i64 v] from ⟨by simp, .inr ⟨w3.heap.size, 1, #[.int .i64 v], rfl, Nat.le_refl _, heap_alloc_new w3 _, by simp, by simp [maxLen], by simp, by simp⟩⟩)
        have HI1 := Lib.hid (show ∀ u ∈ xs.map (Value.int .i64), u.oneCell' = true from fun u hu => by obtain ⟨z, _, rfl⟩ := List.mem_map.1 hu; simp [Value.oneCell'])
        clear hs3 ht3 hv
        go_wp2_with (at_builtin; refine append_all rfl _ _ 25 rfl w3.heap.size 2 (.int .i64 0) 1 8 Try.underlying25 info_int rfl (by decide) (.slice (some ⟨w3.heap.size, 0, none⟩) 1 1) 1 [.int .i64 v] rfl HW1.out _ xs.length _ rfl HSL.out (by simp) HI1.out (by omega) (by decide) (by simp) ?_)
        intro a7 c7 w7 ho7 hg7 hb7
        have hb37 : Below w3.heap.size w3 w7 := hba.trans hb7
        obtain ⟨N, hN⟩ : ∃ N, N = 1 + xs.length := ⟨_, rfl⟩
        rw [← hN] at ho7 ⊢
        have HO7 := Lib.hid (show w7.ownsRow w3.heap.size 2 1 (.slice a7 N c7) N ((v :: xs).map (Value.int .i64)) by simpa using ho7)
        have HN := Lib.hid (show (v :: xs).length = N by rw [hN, List.length_cons]; omega)
        have HT7 := Lib.hid (HT3.out.step hb37 (by omega))
        have HS7 := Lib.hid (HS3.out.mono hb37)
        clear ho7 hg7 hb7 hb37 hba hN
        go_wp2
        go_ret
        refine ⟨_, v :: xs, m3, rfl, ?_, ⟨fun x hx => ?_, by rw [HN.out]; have := HN.out; simp at this; omega⟩, by omega, by omega, HS7.out, HT7.out⟩
        · have := (OwnRow.mk' HO7.out).wide (show w.heap.size ≤ w3.heap.size by omega) (Nat.le_refl _)
          unfold OwnInts; rw [HN.out]; exact this
        · rcases List.mem_cons.1 hx with rfl | hx
          · exact HV.out
          · exact SM.out.1 x hx
      have d0 : (r == 0) = false := by simpa using e0
      have d1 : (r == 1) = false := by simpa using e1
      have d2 : (r == 2) = false := by simpa using e2
      go_wp2
      go_ret
      exact ⟨_, xs, m2, rfl, OwnRow.mk' HO2.out, SM.out, by omega, by omega, HS2.out, HT2.out⟩

theorem l26DrawShift_any (w0 : World) (p n : Nat) (cv : Value) (bs : List Int) (w : World) (h0 : Byts w0 cv bs) (ok : okByts bs) (h : Src w0 w p cv n) (hn : n ≤ 800000000) :
    Calls Try.prog 84 #[.pointer (some ⟨p, 0, none⟩)] w fun e w' => ∃ (r : Int) (m : Nat), e = .returned (.int .i64 r) ∧ -30 ≤ r ∧ r ≤ 30 ∧ n ≤ m ∧ m ≤ n + 4 ∧ Src w0 w' p cv m ∧ Touch p (p + 1) w w' := by
  have HS := Lib.hid h
  clear h
  go_enter Try.func84, Try.ntmps84
  go_wp2_with fail
  refine (one_any w0 p n cv bs 9 _ h0 ok HS.out (by omega) (by omega) (by omega)).mono ?_
  rintro e w1 ⟨b, m1, rfl, m10, m11, hs1, ht1⟩
  cases b
  · go_wp2_with fail
    refine (pick_any w0 p m1 cv bs 25 _ h0 ok hs1 (by omega) (by omega) (by omega)).mono ?_
    rintro e w2 ⟨r, m2, rfl, r0, r1, m20, m21, hs2, ht2⟩
    have wr : IntKind.i64.wrap (r - 12) = r - 12 := IntWalk.i64_in _ (by omega)
    go_wp2
    go_ret
    exact ⟨r - 12, m2, rfl, by omega, by omega, by omega, by omega, hs2, ht1.trans ht2⟩
  · go_wp2_with fail
    refine (among_lit w0 p m1 cv bs [-24, 24, -25, 25, 0] 5 w1.heap.size w1 h0 ok hs1 (by omega) rfl rfl (by simp) (by simp)).mono ?_
    rintro e w2 ⟨r, m2, rfl, hv, m20, m21, hs2, ht2⟩
    have HV := Lib.hid (show -30 ≤ r ∧ r ≤ 30 by simp only [List.mem_cons, List.not_mem_nil, or_false] at hv; omega)
    clear hv
    go_wp2
    go_ret
    exact ⟨r, m2, rfl, HV.out.1, HV.out.2, by omega, by omega, hs2, ht1.trans ht2⟩
theorem l26DrawRest_any (w0 : World) (p n : Nat) (cv : Value) (bs : List Int) (w : World) (h0 : Byts w0 cv bs) (ok : okByts bs) (h : Src w0 w p cv n) (hn : n ≤ 800000000) :
    Calls Try.prog 67 #[.pointer (some ⟨p, 0, none⟩)] w fun e w' => ∃ (r : Int) (m : Nat), e = .returned (.int .i64 r) ∧ 0 ≤ r ∧ r ≤ 2000 ∧ n ≤ m ∧ m ≤ n + 4 ∧ Src w0 w' p cv m ∧ Touch p (p + 1) w w' := by
  have HS := Lib.hid h
  clear h
  go_enter Try.func67, Try.ntmps67
  go_wp2_with fail
  refine (one_any w0 p n cv bs 9 _ h0 ok HS.out (by omega) (by omega) (by omega)).mono ?_
  rintro e w1 ⟨b, m1, rfl, m10, m11, hs1, ht1⟩
  cases b
  · go_wp2_with fail
    refine (pick_any w0 p m1 cv bs 60 _ h0 ok hs1 (by omega) (by omega) (by omega)).mono ?_
    rintro e w2 ⟨r, m2, rfl, r0, r1, m20, m21, hs2, ht2⟩
    have wr : IntKind.i64.wrap (r + 1) = r + 1 := IntWalk.i64_in _ (by omega)
    go_wp2
    go_ret
    exact ⟨r + 1, m2, rfl, by omega, by omega, by omega, by omega, hs2, ht1.trans ht2⟩
  · go_wp2_with fail
    refine (among_lit w0 p m1 cv bs [0, 1, 1000, 1001] 4 w1.heap.size w1 h0 ok hs1 (by omega) rfl rfl (by simp) (by simp)).mono ?_
    rintro e w2 ⟨r, m2, rfl, hv, m20, m21, hs2, ht2⟩
    have HV := Lib.hid (show 0 ≤ r ∧ r ≤ 2000 by simp only [List.mem_cons, List.not_mem_nil, or_false] at hv; omega)
    clear hv
    go_wp2
    go_ret
    exact ⟨r, m2, rfl, HV.out.1, HV.out.2, by omega, by omega, hs2, ht1.trans ht2⟩

end Go.Proofs.Ytemmnjokojgjaaa
/- The contract of the program's ValidTune. -/
set_option linter.unusedSimpArgs false
set_option linter.unnecessarySimpa false
set_option linter.unusedVariables false
namespace Go.Proofs.Ytemmnjokojgjaaa
open Go.RowKit

set_option maxHeartbeats 4000000 in
theorem implValidTun_any (v lv : Value) (x : TunD) (w : World) (h : Tun w v lv x) (hn : x.name.size ≤ maxLen) :
    Calls Try.prog 76 #[v] w fun e w' => e = .returned (.bool (validTunB x)) ∧ Below w.heap.size w w' := by
  obtain ⟨rfl, hlv⟩ := h
  obtain ⟨a, ca, rfl, hca, hcm, _⟩ := id hlv
  have hm : x.tones.length ≤ maxLen := by omega
  clear hca hcm
  unfold maxLen at hm
  go_enter Try.func76, Try.ntmps76
  go_wp2_with fail
  go_loopw [8, 3, 4] (fun i _ _ wr => ∃ k : Nat, k ≤ x.tones.length ∧ i = .int .i64 k ∧ (∀ i, i < k → TonAt x.tones i) ∧ wr.cell? ⟨w.heap.size, 0, none⟩ = some (.string x.name) ∧ wr.cell? ⟨w.heap.size, 1, none⟩ = some (.slice a x.tones.length ca) ∧ Below w.heap.size w wr) (fun i _ _ _ => x.tones.length - (intOf i).toNat)
  case atStart => exact ⟨0, Nat.zero_le _, rfl, by intro i h; omega, by simp [go_sem], by simp [go_sem], by (repeat (first | with_reducible exact Below.refl _ _ | with_reducible exact hbw | (with_reducible refine Below.setCell ?_ ?_ _; rotate_left; · first | exact Nat.le_refl _ | omega | (simp; done) | (simp; omega)) | (with_reducible refine Below.alloc ?_ ?_ _; rotate_left; · first | exact Nat.le_refl _ | omega | (simp; done) | (simp; omega)) | with_reducible refine below_drewN ?_ _ | with_reducible refine Below.drew ?_))⟩
  case round =>
    obtain ⟨k, hk, rfl, ht', u0, u1, hb⟩ := hrel
    have ht := Lib.hid ht'; clear ht'
    have hs := World.block_lt_of_cell? _ _ u0
    simp only at hs
    by_cases hlt : k < x.tones.length
    · obtain ⟨b1, o1, rfl, hB1, c0, c1, c2⟩ := (hlv.mono hb).at hlt
      by_cases g : TonOk x.tones[k]
      · by_cases h0 : 0 < k
        · have hk1 : k - 1 < x.tones.length := by omega
          obtain ⟨b2, o2, e2, hB2, e0, e1, e2'⟩ := (hlv.mono hb).at hk1
          simp only [Option.some.injEq, Addr.mk.injEq, and_true] at e2
          obtain ⟨rfl, rfl⟩ := e2
          have z1 : ((k : Int) - 1).toNat = k - 1 := by omega
          have d0 : decide (0 < (k : Int)) = true := by simpa using h0
          have w1' : IntKind.i64.wrap ((k : Int) - 1) = (k : Int) - 1 := IntWalk.i64_in _ (by omega)
          have w2' : (1 : Int) ≤ (k : Int) := by omega
          have w3' : (k : Int) - 1 < (x.tones.length : Int) := by omega
          have l1 : b1 < wr.heap.size + 1 := by omega
          have l2 : w.heap.size < wr.heap.size + 1 := by omega
          by_cases g2 : before x.tones[k - 1] x.tones[k]
          · have dc : decide (0 ≤ cmpT x.tones[k - 1] x.tones[k]) = false := by have := (cmpT_neg _ _).2 g2; simp; omega
            have G := Lib.hid g; have G2 := Lib.hid g2; clear g g2
            go_wp2_with fail
            refine wp_region_ord [(0, true), (1, false), (2, true), (3, true), (4, true), (5, true), (6, true), (7, true), (8, true), (9, true), (10, true), (11, true), (12, true), (13, true), (14, false), (15, true), (16, true), (17, true)] (none) (by kernel_rfl) (by kernel_rfl) ?_
            (repeat (with_reducible refine wpOrd_soft (fun K hK => ?_); simp only [List.getElem?_toArray, List.getElem?_cons_zero, List.getElem?_cons_succ]; first | (go_simp; refine hK _ ?_) | (simp only [undef]; go_simp; refine hK _ ?_); clear hK K))
            (with_reducible refine wpOrd_hard ?_; simp only [List.getElem?_toArray, List.getElem?_cons_zero, List.getElem?_cons_succ])
            go_wp2_with fail
            refine (validTone_any true x.tones[k] _ (yesB G.out)).mono ?_
            rintro e w1 ⟨rfl, hb1⟩
            have hb1 : Below (wr.heap.size + 1) (wr.alloc (Obj.cells #[.int .i64 x.tones[k].note, .int .i64 x.tones[k].start, .int .i64 x.tones[k].len] 92)) w1 := by simpa using undrew hb1
            have hbr : Below wr.heap.size wr w1 := Below.trans (by (repeat (first | with_reducible exact Below.refl _ _ | with_reducible exact hbw | (with_reducible refine Below.setCell ?_ ?_ _; rotate_left; · first | exact Nat.le_refl _ | omega | (simp; done) | (simp; omega)) | (with_reducible refine Below.alloc ?_ ?_ _; rotate_left; · first | exact Nat.le_refl _ | omega | (simp; done) | (simp; omega)) | with_reducible refine below_drewN ?_ _ | with_reducible refine Below.drew ?_))) (hb1.mono (by omega))
            go_wp2_with fail
            refine And.intro (grown_of_below (by simpa using hb1)) ?_
            (repeat (with_reducible refine wpOrd_soft (fun K hK => ?_); simp only [List.getElem?_toArray, List.getElem?_cons_zero, List.getElem?_cons_succ]; first | (go_simp; refine hK _ ?_) | (simp only [undef]; go_simp; refine hK _ ?_); clear hK K))
            (with_reducible refine wpOrd_hard ?_; simp only [List.getElem?_toArray, List.getElem?_cons_zero, List.getElem?_cons_succ])
            go_wp2_with fail
            refine (compareTones_any x.tones[k - 1] x.tones[k] _).mono ?_
            rintro e w2 ⟨rfl, hb2⟩
            have hb2' := hb1.trans (hb2.mono (by simpa using hb1.size))
            have hbr := hbr.trans (hb2.mono hbr.size)
            go_wp2_with fail
            refine And.intro (grown_of_below (by simpa using hb2')) ?_
            (repeat (with_reducible refine wpOrd_soft (fun K hK => ?_); simp only [List.getElem?_toArray, List.getElem?_cons_zero, List.getElem?_cons_succ]; first | (go_simp; refine hK _ ?_) | (simp only [undef]; go_simp; refine hK _ ?_); clear hK K))
            (with_reducible refine wpOrd_nil ?_); refine NoPanic.normal ?_
            clear w1'
            have y0 := cellB hbr u0
            have y1 := cellB hbr u1
            have hb := hb.trans (hbr.mono hb.size)
            clear hb1 hb2 hb2' hbr
            go_wp2
            go_roundw
            case rel => exact ⟨k + 1, by omega, by go_num, lt_step ht.out (fun _ => ⟨G.out, fun _ => G2.out⟩), y0, y1, hb⟩
            case measure => simp [intOf]; omega
          · have H := Lib.hid (show ¬ TunOk x from fun h => g2 ((h.tones k hlt hlt).2 h0))
            have dc : decide (0 ≤ cmpT x.tones[k - 1] x.tones[k]) = true := by have : ¬ cmpT x.tones[k - 1] x.tones[k] < 0 := fun h => g2 ((cmpT_neg _ _).1 h); simp; omega
            have G := Lib.hid g; clear g g2
            go_wp2_with fail
            refine wp_region_ord [(0, true), (1, false), (2, true), (3, true), (4, true), (5, true), (6, true), (7, true), (8, true), (9, true), (10, true), (11, true), (12, true), (13, true), (14, false), (15, true), (16, true), (17, true)] (none) (by kernel_rfl) (by kernel_rfl) ?_
            (repeat (with_reducible refine wpOrd_soft (fun K hK => ?_); simp only [List.getElem?_toArray, List.getElem?_cons_zero, List.getElem?_cons_succ]; first | (go_simp; refine hK _ ?_) | (simp only [undef]; go_simp; refine hK _ ?_); clear hK K))
            (with_reducible refine wpOrd_hard ?_; simp only [List.getElem?_toArray, List.getElem?_cons_zero, List.getElem?_cons_succ])
            go_wp2_with fail
            refine (validTone_any true x.tones[k] _ (yesB G.out)).mono ?_
            rintro e w1 ⟨rfl, hb1⟩
            have hb1 : Below (wr.heap.size + 1) (wr.alloc (Obj.cells #[.int .i64 x.tones[k].note, .int .i64 x.tones[k].start, .int .i64 x.tones[k].len] 92)) w1 := by simpa using undrew hb1
            have hbr : Below wr.heap.size wr w1 := Below.trans (by (repeat (first | with_reducible exact Below.refl _ _ | with_reducible exact hbw | (with_reducible refine Below.setCell ?_ ?_ _; rotate_left; · first | exact Nat.le_refl _ | omega | (simp; done) | (simp; omega)) | (with_reducible refine Below.alloc ?_ ?_ _; rotate_left; · first | exact Nat.le_refl _ | omega | (simp; done) | (simp; omega)) | with_reducible refine below_drewN ?_ _ | with_reducible refine Below.drew ?_))) (hb1.mono (by omega))
            go_wp2_with fail
            refine And.intro (grown_of_below (by simpa using hb1)) ?_
            (repeat (with_reducible refine wpOrd_soft (fun K hK => ?_); simp only [List.getElem?_toArray, List.getElem?_cons_zero, List.getElem?_cons_succ]; first | (go_simp; refine hK _ ?_) | (simp only [undef]; go_simp; refine hK _ ?_); clear hK K))
            (with_reducible refine wpOrd_hard ?_; simp only [List.getElem?_toArray, List.getElem?_cons_zero, List.getElem?_cons_succ])
            go_wp2_with fail
            refine (compareTones_any x.tones[k - 1] x.tones[k] _).mono ?_
            rintro e w2 ⟨rfl, hb2⟩
            have hb2' := hb1.trans (hb2.mono (by simpa using hb1.size))
            have hbr := hbr.trans (hb2.mono hbr.size)
            go_wp2_with fail
            refine And.intro (grown_of_below (by simpa using hb2')) ?_
            (repeat (with_reducible refine wpOrd_soft (fun K hK => ?_); simp only [List.getElem?_toArray, List.getElem?_cons_zero, List.getElem?_cons_succ]; first | (go_simp; refine hK _ ?_) | (simp only [undef]; go_simp; refine hK _ ?_); clear hK K))
            (with_reducible refine wpOrd_nil ?_); refine NoPanic.normal ?_
            clear w1'
            have hb := hb.trans (hbr.mono hb.size)
            clear hb1 hb2 hb2' hbr
            go_wp2
            go_ret
            exact ⟨ret_bool (finTun (by simpa using H.out)), hb⟩
        · have d0 : decide (0 < (k : Int)) = false := by simpa using h0
          have l1 : b1 < wr.heap.size + 1 := by omega
          have l2 : w.heap.size < wr.heap.size + 1 := by omega
          have G := Lib.hid g; clear g
          go_wp2_with fail
          refine wp_region_ord [(0, true), (1, false), (2, true), (3, true), (4, true), (5, true), (6, true), (7, true), (8, true), (9, true), (10, true), (11, true), (12, true), (13, true), (14, false), (15, true), (16, true), (17, true)] (none) (by kernel_rfl) (by kernel_rfl) ?_
          (repeat (with_reducible refine wpOrd_soft (fun K hK => ?_); simp only [List.getElem?_toArray, List.getElem?_cons_zero, List.getElem?_cons_succ]; first | (go_simp; refine hK _ ?_) | (simp only [undef]; go_simp; refine hK _ ?_); clear hK K))
          (with_reducible refine wpOrd_hard ?_; simp only [List.getElem?_toArray, List.getElem?_cons_zero, List.getElem?_cons_succ])
          go_wp2_with fail
          refine (validTone_any true x.tones[k] _ (yesB G.out)).mono ?_
          rintro e w1 ⟨rfl, hb1⟩
          have hb1 : Below (wr.heap.size + 1) (wr.alloc (Obj.cells #[.int .i64 x.tones[k].note, .int .i64 x.tones[k].start, .int .i64 x.tones[k].len] 92)) w1 := by simpa using undrew hb1
          have hbr : Below wr.heap.size wr w1 := Below.trans (by (repeat (first | with_reducible exact Below.refl _ _ | with_reducible exact hbw | (with_reducible refine Below.setCell ?_ ?_ _; rotate_left; · first | exact Nat.le_refl _ | omega | (simp; done) | (simp; omega)) | (with_reducible refine Below.alloc ?_ ?_ _; rotate_left; · first | exact Nat.le_refl _ | omega | (simp; done) | (simp; omega)) | with_reducible refine below_drewN ?_ _ | with_reducible refine Below.drew ?_))) (hb1.mono (by omega))
          go_wp2_with fail
          refine And.intro (grown_of_below (by simpa using hb1)) ?_
          (repeat (with_reducible refine wpOrd_soft (fun K hK => ?_); simp only [List.getElem?_toArray, List.getElem?_cons_zero, List.getElem?_cons_succ]; first | (go_simp; refine hK _ ?_) | (simp only [undef]; go_simp; refine hK _ ?_); clear hK K))
          (with_reducible refine wpOrd_skip ?_ (fun K hK => ?_); exact grown_of_below (by simpa using hb1); simp only [List.getElem?_toArray, List.getElem?_cons_zero, List.getElem?_cons_succ]; first | (go_simp; refine hK _ ?_) | (simp only [undef]; go_simp; refine hK _ ?_); clear hK K)
          (repeat (with_reducible refine wpOrd_soft (fun K hK => ?_); simp only [List.getElem?_toArray, List.getElem?_cons_zero, List.getElem?_cons_succ]; first | (go_simp; refine hK _ ?_) | (simp only [undef]; go_simp; refine hK _ ?_); clear hK K))
          (with_reducible refine wpOrd_nil ?_); refine NoPanic.normal ?_
          have y0 := cellB hbr u0
          have y1 := cellB hbr u1
          have hb := hb.trans (hbr.mono hb.size)
          clear hb1 hbr
          go_wp2
          go_roundw
          case rel => exact ⟨k + 1, by omega, by go_num, lt_step ht.out (fun _ => ⟨G.out, fun h => absurd h h0⟩), y0, y1, hb⟩
          case measure => simp [intOf]; omega
      · have H := Lib.hid (show ¬ TunOk x from fun h => g (h.tones k hlt hlt).1)
        have l1 : b1 < wr.heap.size + 1 := by omega
        have l2 : w.heap.size < wr.heap.size + 1 := by omega
        have G := Lib.hid g; clear g
        go_wp2_with fail
        refine wp_region_ord [(0, true), (1, false), (2, true), (3, true), (4, true), (5, true), (6, true), (7, true), (8, true), (9, true), (10, true), (11, true), (12, true), (13, true), (14, false), (15, true), (16, true), (17, true)] (none) (by kernel_rfl) (by kernel_rfl) ?_
        (repeat (with_reducible refine wpOrd_soft (fun K hK => ?_); simp only [List.getElem?_toArray, List.getElem?_cons_zero, List.getElem?_cons_succ]; first | (go_simp; refine hK _ ?_) | (simp only [undef]; go_simp; refine hK _ ?_); clear hK K))
        (with_reducible refine wpOrd_hard ?_; simp only [List.getElem?_toArray, List.getElem?_cons_zero, List.getElem?_cons_succ])
        go_wp2_with fail
        refine (validTone_any false x.tones[k] _ (noB G.out)).mono ?_
        rintro e w1 ⟨rfl, hb1⟩
        have hb1 : Below (wr.heap.size + 1) (wr.alloc (Obj.cells #[.int .i64 x.tones[k].note, .int .i64 x.tones[k].start, .int .i64 x.tones[k].len] 92)) w1 := by simpa using undrew hb1
        have hbr : Below wr.heap.size wr w1 := Below.trans (by (repeat (first | with_reducible exact Below.refl _ _ | with_reducible exact hbw | (with_reducible refine Below.setCell ?_ ?_ _; rotate_left; · first | exact Nat.le_refl _ | omega | (simp; done) | (simp; omega)) | (with_reducible refine Below.alloc ?_ ?_ _; rotate_left; · first | exact Nat.le_refl _ | omega | (simp; done) | (simp; omega)) | with_reducible refine below_drewN ?_ _ | with_reducible refine Below.drew ?_))) (hb1.mono (by omega))
        go_wp2_with fail
        refine And.intro (grown_of_below (by simpa using hb1)) ?_
        (repeat (with_reducible refine wpOrd_soft (fun K hK => ?_); simp only [List.getElem?_toArray, List.getElem?_cons_zero, List.getElem?_cons_succ]; first | (go_simp; refine hK _ ?_) | (simp only [undef]; go_simp; refine hK _ ?_); clear hK K))
        (with_reducible refine wpOrd_skip ?_ (fun K hK => ?_); exact grown_of_below (by simpa using hb1); simp only [List.getElem?_toArray, List.getElem?_cons_zero, List.getElem?_cons_succ]; first | (go_simp; refine hK _ ?_) | (simp only [undef]; go_simp; refine hK _ ?_); clear hK K)
        (repeat (with_reducible refine wpOrd_soft (fun K hK => ?_); simp only [List.getElem?_toArray, List.getElem?_cons_zero, List.getElem?_cons_succ]; first | (go_simp; refine hK _ ?_) | (simp only [undef]; go_simp; refine hK _ ?_); clear hK K))
        (with_reducible refine wpOrd_nil ?_); refine NoPanic.normal ?_
        have hb := hb.trans (hbr.mono hb.size)
        clear hb1 hbr
        go_wp2
        go_ret
        exact ⟨ret_bool (finTun (by simpa using H.out)), hb⟩
    · have T := Lib.hid (show TonesOk x.tones from fun i hi => ht.out i (by omega))
      by_cases g : NameOk x.name
      · have G := Lib.hid (yesB g)
        have H := Lib.hid (show decide ((x.tones.length : Int) ≤ 128) = validTunB x from finTun ⟨fun h => by have := h.len; simp; omega, fun h => ⟨g, by have := of_decide_eq_true h; omega, T.out⟩⟩)
        clear g
        go_wp2_with fail
        refine (isName_any x.name _ hn).mono ?_
        rw [← G.out]
        rintro e w1 ⟨rfl, hb1⟩
        have y0 := cellB hb1 u0
        have y1 := cellB hb1 u1
        go_wp2
        go_ret
        exact ⟨ret_bool H.out, hb.trans (hb1.mono hb.size)⟩
      · have G := Lib.hid (noB g)
        have H := Lib.hid (show ¬ TunOk x from fun h => g h.name)
        clear g
        go_wp2_with fail
        refine (isName_any x.name _ hn).mono ?_
        rw [← G.out]
        rintro e w1 ⟨rfl, hb1⟩
        go_wp2
        go_ret
        exact ⟨ret_bool (finTun (by simpa using H.out)), hb.trans (hb1.mono hb.size)⟩

theorem specValidTune_any (v : Value) (x : TunD) (w : World) (h : RdTun w v x) (ok : x.ok) (_ : x.tones.length ≤ 1048576) :
    Calls Try.prog 25 #[v] w fun e w' => e = .returned (.bool (validTunB x)) ∧ Below w.heap.size w w' := by
  obtain ⟨lv, rfl, hlv⟩ := h
  go_enter Try.func25, Try.ntmps25
  go_wp2_with fail
  refine (l25Ok_any _ lv x _ ⟨by simp [go_sem], by simp [go_sem], hlv.mono (by (repeat (first | with_reducible exact Below.refl _ _ | with_reducible exact hbw | (with_reducible refine Below.setCell ?_ ?_ _; rotate_left; · first | exact Nat.le_refl _ | omega | (simp; done) | (simp; omega)) | (with_reducible refine Below.alloc ?_ ?_ _; rotate_left; · first | exact Nat.le_refl _ | omega | (simp; done) | (simp; omega)) | with_reducible refine below_drewN ?_ _ | with_reducible refine Below.drew ?_))), ok.1⟩).mono ?_
  rintro e w1 ⟨rfl, hb⟩
  have hbw : Below w.heap.size w w1 := Below.trans (by (repeat (first | with_reducible exact Below.refl _ _ | with_reducible exact hbw | (with_reducible refine Below.setCell ?_ ?_ _; rotate_left; · first | exact Nat.le_refl _ | omega | (simp; done) | (simp; omega)) | (with_reducible refine Below.alloc ?_ ?_ _; rotate_left; · first | exact Nat.le_refl _ | omega | (simp; done) | (simp; omega)) | with_reducible refine below_drewN ?_ _ | with_reducible refine Below.drew ?_))) (hb.mono (by simp <;> omega))
  go_wp2
  go_ret
  exact ⟨rfl, hbw⟩

theorem implValidTune_any (v : Value) (x : TunD) (w : World) (h : RdTun w v x) (ok : x.ok) (_ : x.tones.length ≤ 1048576) :
    Calls Try.prog 76 #[v] w fun e w' => e = .returned (.bool (validTunB x)) ∧ Below w.heap.size w w' := by
  obtain ⟨lv, h⟩ := h
  exact implValidTun_any v lv x w h ok.1

/-- The size of a tune, as the laws count it. -/
def szTun (x : TunD) : Nat := x.name.size + x.tones.length
theorem szTunY (v : Value) (x : TunD) (left : Int) (w : World) (h : RdTun w v x) (ok : x.ok) (h0 : 0 ≤ left) (hl : left ≤ 1048576) (hs : szTun x ≤ left) :
    Calls Try.prog 8 #[v, .int .i64 left] w fun e w' => e = .returned (.int .i64 (left - szTun x)) ∧ Below w.heap.size w w' := by
  obtain ⟨lv, h⟩ := h
  refine (szTun_any v lv x left w h ok.1 h0 hl).mono fun e w' ⟨he, hb⟩ => ⟨by rw [he]; unfold leftTun szTun at *; rw [if_neg (by omega)]; congr 2; omega, hb⟩
theorem szTunN (v : Value) (x : TunD) (left : Int) (w : World) (h : RdTun w v x) (ok : x.ok) (h0 : 0 ≤ left) (hl : left ≤ 1048576) (hs : left < szTun x) :
    Calls Try.prog 8 #[v, .int .i64 left] w fun e w' => e = .returned (.int .i64 (-1)) ∧ Below w.heap.size w w' := by
  obtain ⟨lv, h⟩ := h
  refine (szTun_any v lv x left w h ok.1 h0 hl).mono fun e w' ⟨he, hb⟩ => ⟨by rw [he]; unfold leftTun szTun at *; rw [if_pos (by omega)], hb⟩

end Go.Proofs.Ytemmnjokojgjaaa
