import Derived.Test.YtijhlllajddlpaaDoorSplitL
import Derived.Test.YtijhlllajddlpaaDoorInfo
import Derived.Test.YtijhlllajddlpaaDoorReadL
import Derived.Test.YtijhlllajddlpaaDoorKey
import Derived.Test.YtijhlllajddlpaaDoorLay
import Derived.Test.YtijhlllajddlpaaDoorNumL
import Derived.Test.YtijhlllajddlpaaDoorName
import Derived.Test.YtijhlllajddlpaaDoorShelf
import Derived.Test.YtijhlllajddlpaaDoorWithin
import Derived.Lib.AtoiErrMem
import Derived.Test.YtijhlllajddlpaaDoorReadActL
import Derived.Test.YtijhlllajddlpaaDoorBox
import Derived.Test.YtijhlllajddlpaaDoorReg2
import Derived.Test.YtijhlllajddlpaaDoorReg3
import Derived.Test.YtijhlllajddlpaaDoorKAct
/- The reference cuts a text at each of a byte. Contract of l01Split. -/
set_option linter.unusedSimpArgs false
set_option linter.unnecessarySimpa false
set_option linter.unusedVariables false
set_option maxRecDepth 100000
namespace Go.Proofs.YtijhlllajddlpaaDoor
open Go.RowKit

theorem info_string : (Tryd.prog.info? 9).map (fun i => (i.zero, i.size, i.bytes)) = some (some (.string ⟨#[]⟩), 1, 16) := by kernel_rfl
/-- v is a row of the call's own that holds these texts. -/
def Pcs (B : Nat) (w : World) (v : Value) (ps : List (List UInt8)) : Prop := ∃ a c, v = .slice a ps.length c ∧ w.ownsRow B 9 1 v ps.length (ps.map fun p => Value.string (bytesB p))
theorem Pcs.mono {B : Nat} {w w' : World} {v : Value} {ps : List (List UInt8)} (h : Pcs B w v ps) (hb : Below w.heap.size w w') : Pcs B w' v ps := by
  obtain ⟨a, c, rfl, h⟩ := h
  exact ⟨a, c, rfl, owns_mono h hb⟩
theorem extr (s : ByteArray) (f i : Nat) : s.extract f i = bytesB ((s.data.toList.take i).drop f) := by
  rw [← bytesB_of (s.extract f i)]
  congr 1
  rw [Lib.extract_data, List.drop_take]

set_option maxHeartbeats 2000000 in
theorem l01Split_any (s : ByteArray) (c : UInt8) (w : World) (hs : s.size ≤ 1048576) :
    Calls Tryd.prog 59 #[.string s, .int .u8 (c.toNat : Int)] w fun e w' => ∃ v, e = .returned v ∧ Pcs w.heap.size w' v (splitC c s.data.toList) ∧ Below w.heap.size w w' := by
  obtain ⟨l, hl⟩ : ∃ l, l = s.data.toList := ⟨_, rfl⟩
  have hsz : l.length = s.size := by rw [hl]; rfl
  obtain ⟨ci, hci⟩ : ∃ ci : Int, ci = (c.toNat : Int) := ⟨_, rfl⟩
  have HL := Lib.hid hl
  have HC := Lib.hid hci
  have HSZ := Lib.hid hsz
  rw [← hl, ← hci]
  clear hl hci hsz
  go_enter Tryd.func59, Tryd.ntmps59
  go_wp2_with fail
  go_loopw [5, 6, 7] (fun o ft it wr => ∃ (i f k : Nat) (ds : List (List UInt8)) (a' : Option Addr) (c' : Nat), i ≤ s.size ∧ f ≤ i ∧ ds.length = k ∧ k ≤ i ∧ o = .slice a' k c' ∧ ft = .int .i64 (f : Int) ∧ it = .int .i64 (i : Int) ∧ splitC c l = ds ++ splitC c (l.drop f) ∧ free c ((l.take i).drop f) ∧ wr.ownsRow w.heap.size 9 1 (.slice a' k c') k (ds.map fun p => Value.string (bytesB p)) ∧ Below w.heap.size w wr) (fun _ _ it _ => s.size - (intOf it).toNat)
  case atStart => exact ⟨0, 0, 0, [], some ⟨w.heap.size, 0, none⟩, 0, Nat.zero_le _, Nat.le_refl _, rfl, Nat.le_refl _, rfl, by go_num, by go_num, by simp, (fun b hb => by simp at hb), by simpa using owns_empty w 9 1 _ (Nat.le_refl _), by (repeat (first | with_reducible exact Below.refl _ _ | with_reducible exact hbw | (with_reducible refine Below.setCell ?_ ?_ _; rotate_left; · first | exact Nat.le_refl _ | omega | (simp; done) | (simp; omega)) | (with_reducible refine Below.alloc ?_ ?_ _; rotate_left; · first | exact Nat.le_refl _ | omega | (simp; done) | (simp; omega)) | with_reducible refine below_drewN ?_ _ | with_reducible refine Below.drew ?_))⟩
  case round =>
    obtain ⟨i, f, k, ds, a', c', hi, hf, hk, hki, rfl, rfl, rfl, hsp, hfr, ho, hb⟩ := hrel
    have HK := Lib.hid hk; have HSP := Lib.hid hsp; have HFR := Lib.hid hfr; have HO := Lib.hid ho; have HB := Lib.hid hb
    have hz := hb.size
    clear hk hsp hfr ho hb
    by_cases hlt : i < s.size
    · have hil : i < l.length := by rw [HSZ.out]; exact hlt
      have hgi : s[i] = l[i] := by
        have := HL.out
        subst this
        rfl
      obtain ⟨g, hg⟩ : ∃ g : Int, (s[i].toNat : Int) = g := ⟨_, rfl⟩
      have HX := Lib.hid (show s.extract f i = bytesB ((l.take i).drop f) by rw [HL.out]; exact extr s f i)
      by_cases hc : l[i] = c
      · have dc : (g == ci) = true := by rw [← hg, hgi, hc, HC.out]; simp
        have hspl := split_at hil hf hc HFR.out
        have HS1 := Lib.hid (show splitC c l = (ds ++ [(l.take i).drop f]) ++ splitC c (l.drop (i + 1)) by rw [HSP.out, hspl]; simp)
        clear hspl hc hgi
        go_wp2_with (at_builtin; refine append_one_at rfl _ _ 77 rfl w.heap.size 9 (.string ⟨#[]⟩) 1 16 Tryd.underlying77 info_string rfl (by decide) _ k _ rfl HO.out [.string (s.extract f i)] rfl (by simp [Value.oneCell']) wr.heap.size rfl rfl (by omega) (by decide) (by omega) ?_)
        intro a7 c7 w7 ho7 hg7 hb7 _
        have HN7 := Lib.hid (show w7.ownsRow w.heap.size 9 1 (.slice a7 (k + 1) c7) (k + 1) ((ds ++ [(l.take i).drop f]).map fun p => Value.string (bytesB p)) from by
          rw [List.map_append, List.map_cons, List.map_nil, ← HX.out]; exact ho7)
        have HB7 := Lib.hid (HB.out.trans hb7)
        clear ho7 hg7 hb7 HO
        go_wp2
        go_roundw
        case rel => exact ⟨i + 1, i + 1, k + 1, _, a7, c7, by omega, by omega, by rw [List.length_append, HK.out]; rfl, by omega, rfl, by go_num, by go_num, HS1.out, (fun b hb => by rw [List.drop_eq_nil_of_le (by rw [List.length_take]; omega)] at hb; cases hb), HN7.out, HB7.out⟩
        case measure => simp [intOf] <;> omega
      · have dc : (g == ci) = false := by
          rw [← hg, hgi, HC.out]
          simp only [beq_eq_false_iff_ne, ne_eq, Int.natCast_inj]
          exact fun e => hc (UInt8.toNat_inj.1 e)
        have HF1 := Lib.hid (show free c ((l.take (i + 1)).drop f) by
          rw [List.take_succ_eq_append_getElem hil, List.drop_append_of_le_length (by rw [List.length_take]; omega)]
          intro b hb
          rcases List.mem_append.1 hb with hb | hb
          · exact HFR.out b hb
          · rw [List.mem_singleton.1 hb]; exact hc)
        clear hc hgi
        go_wp2
        go_roundw
        case rel => exact ⟨i + 1, f, k, ds, a', c', by omega, by omega, HK.out, by omega, rfl, by go_num, by go_num, HSP.out, HF1.out, HO.out, HB.out⟩
        case measure => simp [intOf] <;> omega
    · obtain rfl : i = s.size := by omega
      have HX := Lib.hid (show s.extract f s.size = bytesB ((l.take s.size).drop f) by rw [HL.out]; exact extr s f s.size)
      have HSE := Lib.hid (show splitC c l = ds ++ [(l.take s.size).drop f] by
        have e : l.take s.size = l := by rw [← HSZ.out, List.take_length]
        have hf := HFR.out
        rw [HSP.out, e] at *
        rw [split_none hf])
      go_wp2_with (at_builtin; refine append_one_at rfl _ _ 77 rfl w.heap.size 9 (.string ⟨#[]⟩) 1 16 Tryd.underlying77 info_string rfl (by decide) _ k _ rfl HO.out [.string (s.extract f s.size)] rfl (by simp [Value.oneCell']) wr.heap.size rfl rfl (by omega) (by decide) (by omega) ?_)
      intro a7 c7 w7 ho7 hg7 hb7 _
      have HN7 := Lib.hid (show Pcs w.heap.size w7 (.slice a7 (k + 1) c7) (splitC c l) from by
        have e : (splitC c l).length = k + 1 := by rw [HSE.out, List.length_append, HK.out]; rfl
        refine ⟨a7, c7, by rw [e], ?_⟩
        rw [e, HSE.out, List.map_append, List.map_cons, List.map_nil, ← HX.out]; exact ho7)
      have HB7 := Lib.hid (HB.out.trans hb7)
      clear ho7 hg7 hb7 HO
      go_wp2
      go_ret
      exact ⟨_, rfl, HN7.out, HB7.out⟩

end Go.Proofs.YtijhlllajddlpaaDoor
/- Rows of texts, as both packages cut them. -/
set_option linter.unusedSimpArgs false
set_option linter.unnecessarySimpa false
set_option linter.unusedVariables false
set_option maxRecDepth 100000
namespace Go.Proofs.YtijhlllajddlpaaDoor
open Go.RowKit

/-- v reads as the texts ps, in the block g. -/
def Txt (w : World) (v : Value) (ps : List (List UInt8)) : Prop := ∃ g c, v = .slice (some ⟨g, 0, none⟩) ps.length c ∧ ps.length ≤ c ∧ ∀ j (hj : j < ps.length), w.cell? ⟨g, j, none⟩ = some (.string (bytesB ps[j]))
theorem Txt.mono {w w' : World} {v : Value} {ps : List (List UInt8)} (h : Txt w v ps) (hb : Below w.heap.size w w') : Txt w' v ps := by
  obtain ⟨g, c, rfl, hc, h⟩ := h
  exact ⟨g, c, rfl, hc, fun j hj => cellB hb (h j hj)⟩
theorem Pcs.txt {B : Nat} {w : World} {v : Value} {ps : List (List UInt8)} (h : Pcs B w v ps) (hne : ps ≠ []) : Txt w v ps := by
  obtain ⟨a, c, rfl, ho⟩ := h
  have hpos := List.length_pos_iff.2 hne
  obtain ⟨g, e, hg⟩ : ∃ g, a = some ⟨g, 0, none⟩ ∧ ps.length ≤ c := by
    rcases ho.2 with ⟨e, h0⟩ | ⟨g, cap, cur, e, _, _, hc, _⟩
    · omega
    · simp only [Value.slice.injEq] at e
      exact ⟨g, e.1, by omega⟩
  subst e
  refine ⟨g, c, rfl, hg, fun j hj => ?_⟩
  rw [ho.cellAt j (by omega)]
  simp [hj]
/-- The program's way to cut. -/
theorem split_any (s : ByteArray) (c : UInt8) (w : World) (hs : s.size ≤ 1048576) (hL : Lay w) :
    Calls Tryd.prog 61 #[.string s, .string ⟨#[c]⟩] w fun e w' => ∃ v, e = .returned v ∧ Txt w' v (splitC c s.data.toList) ∧ Below w.heap.size w w' := by
  obtain ⟨m, hm⟩ := hL.len
  refine (Tryd.strings_Split s ⟨#[c]⟩ m w (by omega) hm (by exact Nat.le_refl 1)).mono ?_
  rintro e w' ⟨rfl, rfl⟩
  rw [splitB_eq, countB_eq]
  refine ⟨_, rfl, ⟨w.heap.size, _, rfl, Nat.le_refl _, fun j hj => ?_⟩, belowA _ _⟩
  simp [go_sem, hj]
theorem piece_size {c : UInt8} {s : ByteArray} {p : List UInt8} (h : p ∈ splitC c s.data.toList) (hs : s.size ≤ 1048576) : (bytesB p).size ≤ 1048576 := by
  rw [bytesB_size]
  have := piece_len (c := c) _ p h
  have e : s.data.toList.length = s.size := by cases s; rfl
  omega

end Go.Proofs.YtijhlllajddlpaaDoor
/- The reference's reading of a decimal text. Contract of l01Number. -/
set_option linter.unusedSimpArgs false
set_option linter.unnecessarySimpa false
set_option linter.unusedVariables false
set_option maxRecDepth 100000
namespace Go.Proofs.YtijhlllajddlpaaDoor
open Go.RowKit

theorem num_no {l : List UInt8} (h : ¬ (Canon (body l) ∧ (body l).length ≤ 18 ∧ (l.head? = some 45 → body l ≠ [48]))) : numOk l = false ∧ numV l = 0 := by
  have : numOk l = false := decide_eq_false h
  exact ⟨this, by unfold numV; rw [this]; rfl⟩
theorem num_no_empty {l : List UInt8} (h : body l = []) : numOk l = false ∧ numV l = 0 := num_no fun g => g.1.ne h
theorem num_no_long {l : List UInt8} (h : 18 < (body l).length) : numOk l = false ∧ numV l = 0 := num_no fun g => by have := g.2.1; omega
theorem num_no_zero {l : List UInt8} (h : (body l).head? = some 48) (h1 : 1 < l.length) : numOk l = false ∧ numV l = 0 := num_no fun g => by
  have e := g.1.first h
  by_cases g45 : l.head? = some 45
  · exact g.2.2 g45 e
  · have : body l = l := if_neg g45
    rw [this] at e
    rw [e] at h1; simp at h1
theorem num_no_digit {l : List UInt8} {b : UInt8} (h : b ∈ body l) (hd : ¬ dig b) : numOk l = false ∧ numV l = 0 := num_no fun g => hd (g.1.digs b h)
theorem num_yes {l : List UInt8} (h0 : body l ≠ []) (h1 : (body l).length ≤ 18) (h2 : ¬ ((body l).head? = some 48 ∧ 1 < l.length)) (h3 : ∀ b ∈ body l, dig b) : numOk l = true := by
  have hl : l ≠ [] := fun e => by rw [e] at h0; exact h0 rfl
  refine decide_eq_true ⟨⟨h0, h3, fun e => ?_⟩, h1, fun g e => ?_⟩
  · by_cases g : l.head? = some 45
    · exfalso
      apply h2
      refine ⟨e, ?_⟩
      have hb : body l = l.drop 1 := if_pos g
      have : 0 < (l.drop 1).length := List.length_pos_iff.2 (by rw [← hb]; exact h0)
      rw [List.length_drop] at this; omega
    · have hb : body l = l := if_neg g
      rw [hb] at e ⊢
      match l, hl with
      | [x], _ => simp only [List.head?_cons, Option.some.injEq] at e; rw [e]
      | x :: y :: r, _ => exact absurd ⟨by rw [hb]; exact e, by simp⟩ h2
  · apply h2
    have hb : body l = l.drop 1 := if_pos g
    refine ⟨by rw [e]; rfl, ?_⟩
    have : (l.drop 1).length = 1 := by rw [← hb, e]; rfl
    rw [List.length_drop] at this; omega
theorem num_val {l : List UInt8} (h : numOk l = true) : numV l = if l.head? = some 45 then -(valD 0 (body l) : Int) else (valD 0 (body l) : Int) := by unfold numV; rw [if_pos h]
/-- The digits of l from a up to k, read. -/
def upto (l : List UInt8) (a k : Nat) : Nat := valD 0 ((l.take k).drop a)
theorem upto_start (l : List UInt8) (a : Nat) : upto l a a = 0 := by
  unfold upto
  rw [List.drop_eq_nil_of_le (by rw [List.length_take]; omega)]; rfl
theorem upto_step {l : List UInt8} {a k : Nat} (hk : k < l.length) (ha : a ≤ k) : upto l a (k + 1) = upto l a k * 10 + (l[k].toNat - 48) := by
  unfold upto
  rw [List.take_succ_eq_append_getElem hk, List.drop_append_of_le_length (by rw [List.length_take]; omega), valD_snoc]
def digsTo (l : List UInt8) (a k : Nat) : Prop := ∀ b ∈ (l.take k).drop a, dig b
theorem digsTo_start (l : List UInt8) (a : Nat) : digsTo l a a := by
  unfold digsTo
  rw [List.drop_eq_nil_of_le (by rw [List.length_take]; omega)]; intro b hb; cases hb
theorem digsTo_step {l : List UInt8} {a k : Nat} (h : digsTo l a k) (hk : k < l.length) (ha : a ≤ k) (hd : dig l[k]) : digsTo l a (k + 1) := by
  unfold digsTo at *
  rw [List.take_succ_eq_append_getElem hk, List.drop_append_of_le_length (by rw [List.length_take]; omega)]
  intro b hb
  rcases List.mem_append.1 hb with hb | hb
  · exact h b hb
  · rw [List.mem_singleton.1 hb]; exact hd
theorem upto_lt {l : List UInt8} {a k : Nat} (h : digsTo l a k) (hk : k ≤ a + 17) : upto l a k < 100000000000000000 := by
  have h1 := valD_lt _ h
  have h2 : 10 ^ ((l.take k).drop a).length ≤ 10 ^ 17 := Nat.pow_le_pow_right (by omega) (by rw [List.length_drop, List.length_take]; omega)
  unfold upto
  omega
theorem mem_drop {l : List UInt8} {a k : Nat} (h : k < l.length) (ha : a ≤ k) : l[k] ∈ l.drop a := by
  rw [List.mem_iff_getElem?]
  exact ⟨k - a, by rw [List.getElem?_drop, show a + (k - a) = k by omega, List.getElem?_eq_getElem h]⟩
theorem digC (b : UInt8) : digitC (b.toNat : Int) ↔ dig b := by unfold digitC dig; omega

set_option maxHeartbeats 4000000 in
theorem l01Number_any (s : ByteArray) (w : World) (hs : s.size ≤ 1048576) :
    Calls Tryd.prog 60 #[.string s] w fun e w' => e = .returned (.tuple #[.int .i64 (numV s.data.toList), .bool (numOk s.data.toList)]) ∧ w' = w := by
  obtain ⟨l, hl⟩ : ∃ l, l = s.data.toList := ⟨_, rfl⟩
  have hsz : l.length = s.size := by rw [hl]; rfl
  have hbt : ∀ k (h : k < s.size) (h2 : k < l.length), s[k] = l[k] := by
    intro k h h2
    subst hl; rfl
  have HB := Lib.hid hbt
  have HSZ := Lib.hid hsz
  rw [← hl]
  clear hbt hsz hl
  by_cases e0 : s.size = 0
  · have hl0 : l = [] := List.eq_nil_of_length_eq_zero (by rw [HSZ.out]; exact e0)
    have HN := Lib.hid (num_no_empty (l := l) (by rw [hl0]; rfl))
    clear hl0
    go_enter Tryd.func60, Tryd.ntmps60
    go_wp2
    go_ret2
    exact ⟨by rw [HN.out.1, HN.out.2]; rfl, rfl⟩
  have z0 : 0 < s.size := by omega
  have z0l : 0 < l.length := by rw [HSZ.out]; exact z0
  have HH := Lib.hid (show l.head? = some l[0] by rw [List.head?_eq_getElem?, List.getElem?_eq_getElem z0l])
  obtain ⟨g0, hg0⟩ : ∃ g : Int, (s[0].toNat : Int) = g := ⟨_, rfl⟩
  have HG0 := Lib.hid (show g0 = (l[0].toNat : Int) by rw [← hg0, HB.out 0 z0 z0l])
  by_cases c45 : l[0] = 45
  · have dc : (g0 == 45) = true := by rw [HG0.out, c45]; rfl
    have HBY := Lib.hid (show body l = l.drop 1 from if_pos (by rw [HH.out, c45]))
    have HV := Lib.hid (fun (h : numOk l = true) => (num_val h).trans (if_pos (by rw [HH.out, c45])))
    clear c45
    by_cases e1 : s.size = 1
    · have HN := Lib.hid (num_no_empty (l := l) (by rw [HBY.out]; exact List.drop_eq_nil_of_le (by rw [HSZ.out, e1]; omega)))
      go_enter Tryd.func60, Tryd.ntmps60
      go_wp2
      go_ret2
      exact ⟨by rw [HN.out.1, HN.out.2]; rfl, rfl⟩
    have hb1 : (body l).length = s.size - 1 := by rw [HBY.out, List.length_drop, HSZ.out]
    have z1 : 1 < s.size := by omega
    have z1l : 1 < l.length := by rw [HSZ.out]; exact z1
    obtain ⟨g1, hg1⟩ : ∃ g : Int, (s[1].toNat : Int) = g := ⟨_, rfl⟩
    have HG1 := Lib.hid (show g1 = (l[1].toNat : Int) by rw [← hg1, HB.out 1 z1 z1l])
    have HD1 := Lib.hid (show (body l).head? = some l[1] by rw [HBY.out, List.head?_drop, List.getElem?_eq_getElem z1l])
    have HNE := Lib.hid (show body l ≠ [] from fun e => by rw [e] at hb1; simp at hb1; omega)
    by_cases e2 : 18 < s.size - 1
    · have HN := Lib.hid (num_no_long (l := l) (by rw [hb1]; exact e2))
      go_enter Tryd.func60, Tryd.ntmps60
      go_wp2
      go_ret2
      exact ⟨by rw [HN.out.1, HN.out.2]; rfl, rfl⟩
    have f1 : ((s.size : Int) == 1) = false := by simp only [beq_eq_false_iff_ne, ne_eq]; omega
    have f2 : decide (18 < (s.size : Int) - 1) = false := by simp only [decide_eq_false_iff_not]; omega
    have f3 : decide (1 < (s.size : Int)) = true := by simp only [decide_eq_true_eq]; omega
    have f4 : decide (1 < s.size) = true := by simp only [decide_eq_true_eq]; omega
    by_cases e3 : l[1] = 48
    · have d3 : (g1 == 48) = true := by rw [HG1.out, e3]; rfl
      have HN := Lib.hid (num_no_zero (l := l) (by rw [HD1.out, e3]) (by rw [HSZ.out]; exact z1))
      clear e3
      go_enter Tryd.func60, Tryd.ntmps60
      go_wp2
      go_ret2
      exact ⟨by rw [HN.out.1, HN.out.2]; rfl, rfl⟩
    · have d3 : (g1 == 48) = false := by
        rw [HG1.out]
        simp only [beq_eq_false_iff_ne, ne_eq]
        exact fun e => e3 (UInt8.toNat_inj.1 (by have : (48 : UInt8).toNat = 48 := rfl; omega))
      have HY := Lib.hid (num_yes (l := l) HNE.out (by rw [hb1]; omega) (fun e => by rw [HD1.out] at e; exact e3 (Option.some.inj e.1)))
      clear e3
      go_enter Tryd.func60, Tryd.ntmps60
      go_wp2_with fail
      go_loop [5, 6] (fun n i => ∃ k : Nat, 1 ≤ k ∧ k ≤ s.size ∧ i = .int .i64 (k : Int) ∧ n = .int .i64 ((upto l 1 k : Nat) : Int) ∧ digsTo l 1 k) (fun n i => s.size - (intOf i).toNat)
      case atStart => exact ⟨1, Nat.le_refl _, by omega, by go_num, by rw [upto_start]; go_num, digsTo_start _ _⟩
      case round =>
        obtain ⟨k, h1k, hk, rfl, rfl, hd⟩ := hrel
        have HDG := Lib.hid hd
        clear hd
        by_cases hlt : k < s.size
        · have hkl : k < l.length := by rw [HSZ.out]; exact hlt
          obtain ⟨g, hg⟩ : ∃ g : Int, (s[k].toNat : Int) = g := ⟨_, rfl⟩
          have HG := Lib.hid (show g = (l[k].toNat : Int) by rw [← hg, HB.out k hlt hkl])
          by_cases hd : dig l[k]
          · have HC := Lib.hid (show true = decide (digitC g) from (decide_eq_true (by rw [HG.out]; exact (digC _).2 hd)).symm)
            have HS := Lib.hid (upto_step hkl h1k)
            have HDN := Lib.hid (digsTo_step HDG.out hkl h1k hd)
            have hu := upto_lt HDG.out (by omega)
            obtain ⟨u, hu2⟩ : ∃ u, u = upto l 1 k := ⟨_, rfl⟩
            rw [← hu2] at hu ⊢
            have HU := Lib.hid hu2
            obtain ⟨d, hdd⟩ : ∃ d : Nat, d = l[k].toNat - 48 := ⟨_, rfl⟩
            have hd9 : d ≤ 9 := by unfold dig at hd; omega
            have w1 : IntKind.u8.wrap (g - 48) = (d : Int) := by
              rw [HG.out, show (l[k].toNat : Int) - 48 = (d : Int) by unfold dig at hd; omega]
              exact IntWalk.u8_in _ (by omega)
            have HE := Lib.hid (show 10 * (u : Int) + (d : Int) = ((upto l 1 (k + 1) : Nat) : Int) by rw [HS.out, ← HU.out, ← hdd]; omega)
            clear hd hdd hu2
            go_wp2_with fail
            refine (l01Digit_any true _ _ HC.out).mono ?_
            rintro e w1 ⟨rfl, rfl⟩
            go_wp2
            exact ⟨⟨k + 1, by omega, by omega, by go_num, by rw [← HE.out], HDN.out⟩, by simp [intOf] <;> omega⟩
          · have HC := Lib.hid (show false = decide (digitC g) from (decide_eq_false (by rw [HG.out]; exact fun e => hd ((digC _).1 e))).symm)
            have HN := Lib.hid (num_no_digit (l := l) (b := l[k]) (by rw [HBY.out]; exact mem_drop hkl h1k) hd)
            clear hd
            go_wp2_with fail
            refine (l01Digit_any false _ _ HC.out).mono ?_
            rintro e w1 ⟨rfl, rfl⟩
            go_wp2
            go_ret2
            exact ⟨by rw [HN.out.1, HN.out.2]; rfl, rfl⟩
        · obtain rfl : k = s.size := by omega
          have HOK := Lib.hid (HY.out (by
            have := HDG.out
            unfold digsTo at this
            rw [← HSZ.out, List.take_length] at this
            rw [HBY.out]; exact this))
          have HVV := Lib.hid (HV.out HOK.out)
          have HUU := Lib.hid (show upto l 1 s.size = valD 0 (body l) by unfold upto; rw [← HSZ.out, List.take_length, HBY.out])
          have hbd := numV_bd (l := l)
          rw [HVV.out, ← HUU.out] at hbd
          go_wp2
          go_ret2
          exact ⟨by rw [HVV.out, HOK.out, ← HUU.out]; rfl, rfl⟩
  · have dc : (g0 == 45) = false := by
      rw [HG0.out]
      simp only [beq_eq_false_iff_ne, ne_eq]
      exact fun e => c45 (UInt8.toNat_inj.1 (by have : (45 : UInt8).toNat = 45 := rfl; omega))
    have HBY := Lib.hid (show body l = l.drop 0 from (if_neg (by rw [HH.out]; exact fun e => c45 (Option.some.inj e))).trans List.drop_zero.symm)
    have HV := Lib.hid (fun (h : numOk l = true) => (num_val h).trans (if_neg (by rw [HH.out]; exact fun e => c45 (Option.some.inj e))))
    clear c45
    have hb1 : (body l).length = s.size := by rw [HBY.out, List.drop_zero, HSZ.out]
    have HD1 := Lib.hid (show (body l).head? = some l[0] by rw [HBY.out, List.drop_zero, HH.out])
    have HNE := Lib.hid (show body l ≠ [] from fun e => by rw [e] at hb1; simp at hb1; omega)
    by_cases e2 : 18 < s.size
    · have HN := Lib.hid (num_no_long (l := l) (by rw [hb1]; exact e2))
      go_enter Tryd.func60, Tryd.ntmps60
      go_wp2
      go_ret2
      exact ⟨by rw [HN.out.1, HN.out.2]; rfl, rfl⟩
    have f1 : ((s.size : Int) == 0) = false := by simp only [beq_eq_false_iff_ne, ne_eq]; omega
    have f2 : decide (18 < (s.size : Int)) = false := by simp only [decide_eq_false_iff_not]; omega
    have f3 : decide (18 < s.size) = false := by simp only [decide_eq_false_iff_not]; omega
    by_cases e3 : l[0] = 48
    · have d3 : (g0 == 48) = true := by rw [HG0.out, e3]; rfl
      by_cases e4 : 1 < s.size
      · have d4 : decide (1 < (s.size : Int)) = true := by simp; omega
        have d5 : decide (1 < s.size) = true := by simp; omega
        have HN := Lib.hid (num_no_zero (l := l) (by rw [HD1.out, e3]) (by rw [HSZ.out]; exact e4))
        clear e3
        go_enter Tryd.func60, Tryd.ntmps60
        go_wp2
        go_ret2
        exact ⟨by rw [HN.out.1, HN.out.2]; rfl, rfl⟩
      · have d4 : decide (1 < (s.size : Int)) = false := by simp; omega
        have d5 : decide (1 < s.size) = false := by simp; omega
        have HY := Lib.hid (num_yes (l := l) HNE.out (by rw [hb1]; omega) (fun e => by have := HSZ.out; omega))
        clear e3
        go_enter Tryd.func60, Tryd.ntmps60
        go_wp2_with fail
        go_loop [5, 6] (fun n i => ∃ k : Nat, 0 ≤ k ∧ k ≤ s.size ∧ i = .int .i64 (k : Int) ∧ n = .int .i64 ((upto l 0 k : Nat) : Int) ∧ digsTo l 0 k) (fun n i => s.size - (intOf i).toNat)
        case atStart => exact ⟨0, Nat.le_refl _, by omega, by go_num, by rw [upto_start]; go_num, digsTo_start _ _⟩
        case round =>
          obtain ⟨k, h1k, hk, rfl, rfl, hd⟩ := hrel
          have HDG := Lib.hid hd
          clear hd
          by_cases hlt : k < s.size
          · have hkl : k < l.length := by rw [HSZ.out]; exact hlt
            obtain ⟨g, hg⟩ : ∃ g : Int, (s[k].toNat : Int) = g := ⟨_, rfl⟩
            have HG := Lib.hid (show g = (l[k].toNat : Int) by rw [← hg, HB.out k hlt hkl])
            by_cases hd : dig l[k]
            · have HC := Lib.hid (show true = decide (digitC g) from (decide_eq_true (by rw [HG.out]; exact (digC _).2 hd)).symm)
              have HS := Lib.hid (upto_step hkl h1k)
              have HDN := Lib.hid (digsTo_step HDG.out hkl h1k hd)
              have hu := upto_lt HDG.out (by omega)
              obtain ⟨u, hu2⟩ : ∃ u, u = upto l 0 k := ⟨_, rfl⟩
              rw [← hu2] at hu ⊢
              have HU := Lib.hid hu2
              obtain ⟨d, hdd⟩ : ∃ d : Nat, d = l[k].toNat - 48 := ⟨_, rfl⟩
              have hd9 : d ≤ 9 := by unfold dig at hd; omega
              have w1 : IntKind.u8.wrap (g - 48) = (d : Int) := by
                rw [HG.out, show (l[k].toNat : Int) - 48 = (d : Int) by unfold dig at hd; omega]
                exact IntWalk.u8_in _ (by omega)
              have HE := Lib.hid (show 10 * (u : Int) + (d : Int) = ((upto l 0 (k + 1) : Nat) : Int) by rw [HS.out, ← HU.out, ← hdd]; omega)
              clear hd hdd hu2
              go_wp2_with fail
              refine (l01Digit_any true _ _ HC.out).mono ?_
              rintro e w1 ⟨rfl, rfl⟩
              go_wp2
              exact ⟨⟨k + 1, by omega, by omega, by go_num, by rw [← HE.out], HDN.out⟩, by simp [intOf] <;> omega⟩
            · have HC := Lib.hid (show false = decide (digitC g) from (decide_eq_false (by rw [HG.out]; exact fun e => hd ((digC _).1 e))).symm)
              have HN := Lib.hid (num_no_digit (l := l) (b := l[k]) (by rw [HBY.out]; exact mem_drop hkl h1k) hd)
              clear hd
              go_wp2_with fail
              refine (l01Digit_any false _ _ HC.out).mono ?_
              rintro e w1 ⟨rfl, rfl⟩
              go_wp2
              go_ret2
              exact ⟨by rw [HN.out.1, HN.out.2]; rfl, rfl⟩
          · obtain rfl : k = s.size := by omega
            have HOK := Lib.hid (HY.out (by
              have := HDG.out
              unfold digsTo at this
              rw [← HSZ.out, List.take_length] at this
              rw [HBY.out]; exact this))
            have HVV := Lib.hid (HV.out HOK.out)
            have HUU := Lib.hid (show upto l 0 s.size = valD 0 (body l) by unfold upto; rw [← HSZ.out, List.take_length, HBY.out])
            have hbd := numV_bd (l := l)
            rw [HVV.out, ← HUU.out] at hbd
            go_wp2
            go_ret2
            exact ⟨by rw [HVV.out, HOK.out, ← HUU.out]; rfl, rfl⟩
    · have d3 : (g0 == 48) = false := by
        rw [HG0.out]
        simp only [beq_eq_false_iff_ne, ne_eq]
        exact fun e => e3 (UInt8.toNat_inj.1 (by have : (48 : UInt8).toNat = 48 := rfl; omega))
      have HY := Lib.hid (num_yes (l := l) HNE.out (by rw [hb1]; omega) (fun e => by rw [HD1.out] at e; exact e3 (Option.some.inj e.1)))
      clear e3
      go_enter Tryd.func60, Tryd.ntmps60
      go_wp2_with fail
      go_loop [5, 6] (fun n i => ∃ k : Nat, 0 ≤ k ∧ k ≤ s.size ∧ i = .int .i64 (k : Int) ∧ n = .int .i64 ((upto l 0 k : Nat) : Int) ∧ digsTo l 0 k) (fun n i => s.size - (intOf i).toNat)
      case atStart => exact ⟨0, Nat.le_refl _, by omega, by go_num, by rw [upto_start]; go_num, digsTo_start _ _⟩
      case round =>
        obtain ⟨k, h1k, hk, rfl, rfl, hd⟩ := hrel
        have HDG := Lib.hid hd
        clear hd
        by_cases hlt : k < s.size
        · have hkl : k < l.length := by rw [HSZ.out]; exact hlt
          obtain ⟨g, hg⟩ : ∃ g : Int, (s[k].toNat : Int) = g := ⟨_, rfl⟩
          have HG := Lib.hid (show g = (l[k].toNat : Int) by rw [← hg, HB.out k hlt hkl])
          by_cases hd : dig l[k]
          · have HC := Lib.hid (show true = decide (digitC g) from (decide_eq_true (by rw [HG.out]; exact (digC _).2 hd)).symm)
            have HS := Lib.hid (upto_step hkl h1k)
            have HDN := Lib.hid (digsTo_step HDG.out hkl h1k hd)
            have hu := upto_lt HDG.out (by omega)
            obtain ⟨u, hu2⟩ : ∃ u, u = upto l 0 k := ⟨_, rfl⟩
            rw [← hu2] at hu ⊢
            have HU := Lib.hid hu2
            obtain ⟨d, hdd⟩ : ∃ d : Nat, d = l[k].toNat - 48 := ⟨_, rfl⟩
            have hd9 : d ≤ 9 := by unfold dig at hd; omega
            have w1 : IntKind.u8.wrap (g - 48) = (d : Int) := by
              rw [HG.out, show (l[k].toNat : Int) - 48 = (d : Int) by unfold dig at hd; omega]
              exact IntWalk.u8_in _ (by omega)
            have HE := Lib.hid (show 10 * (u : Int) + (d : Int) = ((upto l 0 (k + 1) : Nat) : Int) by rw [HS.out, ← HU.out, ← hdd]; omega)
            clear hd hdd hu2
            go_wp2_with fail
            refine (l01Digit_any true _ _ HC.out).mono ?_
            rintro e w1 ⟨rfl, rfl⟩
            go_wp2
            exact ⟨⟨k + 1, by omega, by omega, by go_num, by rw [← HE.out], HDN.out⟩, by simp [intOf] <;> omega⟩
          · have HC := Lib.hid (show false = decide (digitC g) from (decide_eq_false (by rw [HG.out]; exact fun e => hd ((digC _).1 e))).symm)
            have HN := Lib.hid (num_no_digit (l := l) (b := l[k]) (by rw [HBY.out]; exact mem_drop hkl h1k) hd)
            clear hd
            go_wp2_with fail
            refine (l01Digit_any false _ _ HC.out).mono ?_
            rintro e w1 ⟨rfl, rfl⟩
            go_wp2
            go_ret2
            exact ⟨by rw [HN.out.1, HN.out.2]; rfl, rfl⟩
        · obtain rfl : k = s.size := by omega
          have HOK := Lib.hid (HY.out (by
            have := HDG.out
            unfold digsTo at this
            rw [← HSZ.out, List.take_length] at this
            rw [HBY.out]; exact this))
          have HVV := Lib.hid (HV.out HOK.out)
          have HUU := Lib.hid (show upto l 0 s.size = valD 0 (body l) by unfold upto; rw [← HSZ.out, List.take_length, HBY.out])
          have hbd := numV_bd (l := l)
          rw [HVV.out, ← HUU.out] at hbd
          go_wp2
          go_ret2
          exact ⟨by rw [HVV.out, HOK.out, ← HUU.out]; rfl, rfl⟩

end Go.Proofs.YtijhlllajddlpaaDoor
/- Texts compared. -/
set_option linter.unusedSimpArgs false
namespace Go.Proofs.YtijhlllajddlpaaDoor
open Go.RowKit
theorem strEq_inj {a b : ByteArray} (h : a.toList = b.toList) : a = b := by
  rw [ByteArray.toList_eq, ByteArray.toList_eq] at h
  cases a; cases b; simp only at h
  congr 1
  exact Array.toList_inj.1 h
theorem strEq (a b : ByteArray) : (a.toList == b.toList) = decide (a = b) := by
  by_cases h : a = b
  · subst h; simp
  · have : a.toList ≠ b.toList := fun e => h (strEq_inj e)
    simp [h, this]
end Go.Proofs.YtijhlllajddlpaaDoor
/- The reference's reading of a list of numbers. Contract of ReadList. -/
set_option linter.unusedSimpArgs false
set_option linter.unnecessarySimpa false
set_option linter.unusedVariables false
set_option maxRecDepth 100000
namespace Go.Proofs.YtijhlllajddlpaaDoor
open Go.RowKit

theorem l01NumberP_any (p : List UInt8) (w : World) (hs : (bytesB p).size ≤ 1048576) :
    Calls Tryd.prog 60 #[.string (bytesB p)] w fun e w' => e = .returned (.tuple #[.int .i64 (numV p), .bool (numOk p)]) ∧ w' = w := by
  have := l01Number_any (bytesB p) w hs
  rwa [bytesB_list] at this
theorem dash_no {s : ByteArray} (h : ¬ s = bytesB [45]) : (s.toList == [45]) = false := by
  have e := strEq s ⟨#[45]⟩
  rw [ByteArray.toList_eq (⟨#[45]⟩ : ByteArray)] at e
  rw [show ([45] : List UInt8) = (⟨#[45]⟩ : ByteArray).data.toList from rfl, e]
  exact decide_eq_false h
theorem dash_eq : bytesB [45] = (⟨#[45]⟩ : ByteArray) := rfl
/-- The numbers of the first k pieces. -/
def numsTo (ps : List (List UInt8)) (k : Nat) : List Int := (ps.take k).map numV
theorem numsTo_len (ps : List (List UInt8)) {k : Nat} (h : k ≤ ps.length) : (numsTo ps k).length = k := by unfold numsTo; rw [List.length_map, List.length_take, Nat.min_eq_left h]
theorem numsTo_step {ps : List (List UInt8)} {k : Nat} (h : k < ps.length) : numsTo ps (k + 1) = numsTo ps k ++ [numV ps[k]] := by unfold numsTo; rw [List.take_succ_eq_append_getElem h, List.map_append]; rfl
theorem numsTo_all (ps : List (List UInt8)) : numsTo ps ps.length = ps.map numV := by unfold numsTo; rw [List.take_length]

set_option maxHeartbeats 4000000 in
theorem specReadList_any (s : ByteArray) (w : World) (hs : s.size ≤ 1048576) :
    Calls Tryd.prog 30 #[.string s] w fun e w' => ∃ v, e = .returned (.tuple #[v, .bool (rlB s)]) ∧ Ints w' v (rlV s) ∧ Below w.heap.size w w' := by
  by_cases hd : s = bytesB [45]
  · have HR := Lib.hid (rl_dash hd)
    rw [dash_eq] at hd
    subst hd
    go_enter Tryd.func30, Tryd.ntmps30
    go_wp2
    go_ret2
    refine ⟨_, by rw [HR.out.1]; rfl, by rw [HR.out.2]; exact Sl.of_owns (owns_empty w 2 1 w.heap.size (Nat.le_refl _)), belowA _ _⟩
  have d0 := dash_no hd
  have HD := Lib.hid hd
  have HS := Lib.hid hs
  have hne := splitC_ne 44 s.data.toList
  obtain ⟨ps, hps⟩ : ∃ ps, ps = pieces s := ⟨_, rfl⟩
  have HPS := Lib.hid hps
  have hsp := l01Split_any s 44 w hs
  rw [show splitC 44 s.data.toList = ps from hps.symm] at hsp hne
  have HSP := Lib.hid hsp
  have HSZ := Lib.hid (show ∀ p ∈ ps, (bytesB p).size ≤ 1048576 from fun p hp => piece_size (by rw [hps] at hp; exact hp) hs)
  clear hsp hd hps hs
  go_enter Tryd.func30, Tryd.ntmps30
  go_wp2_with fail
  refine HSP.out.mono ?_
  rintro e w1 ⟨v, rfl, hp1, hb1⟩
  have hz1 := hb1.size
  have HB1 := Lib.hid hb1
  obtain ⟨g, c, rfl, hcc, ht⟩ := hp1.txt hne
  have HT := Lib.hid ht
  clear ht hp1 hb1
  by_cases h64 : 64 < ps.length
  · have d1 : decide (64 < (ps.length : Int)) = true := by simp; omega
    have HR := Lib.hid (rl_no HD.out (show numsB (pieces s) = false by rw [← HPS.out]; exact decide_eq_false fun h => by have := h.1; omega))
    go_wp2
    go_ret2
    refine ⟨_, by rw [HR.out.1]; rfl, by rw [HR.out.2]; exact Sl.of_owns (owns_nil w1 2 1 0), HB1.out⟩
  have d1 : decide (64 < (ps.length : Int)) = false := by simp; omega
  have d2 : decide (64 < ps.length) = false := by simp; omega
  have HO0 := Lib.hid (owns_empty w1 2 1 w1.heap.size (Nat.le_refl _))
  have h64' : ps.length ≤ 64 := by omega
  go_wp2_with fail
  go_loopw [5, 6, 7, 8] (fun o i _ _ wr => ∃ (k : Nat) (a' : Option Addr) (c' : Nat), k ≤ ps.length ∧ i = .int .i64 (k : Int) ∧ o = .slice a' k c' ∧ wr.ownsRow w1.heap.size 2 1 (.slice a' k c') k ((numsTo ps k).map (Value.int .i64)) ∧ (∀ j (hj : j < ps.length), j < k → numAt ps[j]) ∧ Below w1.heap.size w1 wr) (fun _ i _ _ _ => ps.length - (intOf i).toNat)
  case atStart => exact ⟨0, some ⟨w1.heap.size, 0, none⟩, 0, Nat.zero_le _, by go_num, rfl, HO0.out, fun j _ hj => by omega, belowA _ _⟩
  case round =>
    obtain ⟨k, a', c', hk, rfl, rfl, ho, hn, hb⟩ := hrel
    have hz := hb.size
    have HB := Lib.hid hb; have HO := Lib.hid ho; have HN := Lib.hid hn
    have HBW := Lib.hid (HB1.out.trans (hb.mono hz1))
    clear ho hn
    by_cases hlt : k < ps.length
    · have e1 : wr.cell? ⟨g, k, none⟩ = some (.string (bytesB ps[k])) := cellB hb (HT.out k hlt)
      have HS1 := Lib.hid (HSZ.out _ (List.getElem_mem hlt))
      have HST := Lib.hid (numsTo_step hlt)
      clear hb
      cases hv : numOk ps[k]
      · have HR := Lib.hid (rl_no HD.out (show numsB (pieces s) = false by
          rw [← HPS.out]
          exact decide_eq_false fun h => by have := (h.2 _ (List.getElem_mem hlt)).1; rw [hv] at this; cases this))
        go_wp2_with fail
        refine (l01NumberP_any _ _ HS1.out).mono ?_
        rw [hv]
        rintro e w2 ⟨rfl, rfl⟩
        clear hv
        go_wp2
        go_ret2
        refine ⟨_, by rw [HR.out.1]; rfl, by rw [HR.out.2]; exact Sl.of_owns (owns_nil w2 2 1 0), HBW.out⟩
      by_cases hr : isVal (numV ps[k])
      · have HIN := Lib.hid (show true = decide (-1000000000000 ≤ numV ps[k] ∧ numV ps[k] ≤ 1000000000000) from (decide_eq_true hr).symm)
        have HA := Lib.hid (show numAt ps[k] from ⟨hv, hr⟩)
        clear hr
        go_wp2_with fail
        refine (l01NumberP_any _ _ HS1.out).mono ?_
        rw [hv]
        rintro e w2 ⟨rfl, rfl⟩
        clear hv
        go_wp2_with fail
        refine (l00In_any true _ _ _ _ HIN.out).mono ?_
        rintro e w3 ⟨rfl, rfl⟩
        go_wp2_with (at_builtin; refine append_one_at rfl _ _ 52 rfl w1.heap.size 2 (.int .i64 0) 1 8 Tryd.underlying52 info_int rfl (by decide) _ k _ rfl HO.out [.int .i64 (numV ps[k])] rfl (by simp [Value.oneCell']) w3.heap.size rfl rfl (by omega) (by decide) (by omega) ?_)
        intro a7 c7 w7 ho7 hg7 hb7 _
        have HN7 := Lib.hid (show w7.ownsRow w1.heap.size 2 1 (.slice a7 (k + 1) c7) (k + 1) ((numsTo ps (k + 1)).map (Value.int .i64)) from by rw [HST.out, List.map_append]; exact ho7)
        have HB7 := Lib.hid (HB.out.trans hb7)
        clear ho7 hg7 hb7 HO
        go_wp2
        go_roundw
        case rel => exact ⟨k + 1, a7, c7, by omega, by go_num, rfl, HN7.out, fun j hj h1 => by
          by_cases e : j = k
          · subst e; exact HA.out
          · exact HN.out j hj (by omega), HB7.out⟩
        case measure => simp [intOf] <;> omega
      · have HIN := Lib.hid (show false = decide (-1000000000000 ≤ numV ps[k] ∧ numV ps[k] ≤ 1000000000000) from (decide_eq_false hr).symm)
        have HR := Lib.hid (rl_no HD.out (show numsB (pieces s) = false by
          rw [← HPS.out]
          exact decide_eq_false fun h => hr (h.2 _ (List.getElem_mem hlt)).2))
        clear hr
        go_wp2_with fail
        refine (l01NumberP_any _ _ HS1.out).mono ?_
        rw [hv]
        rintro e w2 ⟨rfl, rfl⟩
        clear hv
        go_wp2_with fail
        refine (l00In_any false _ _ _ _ HIN.out).mono ?_
        rintro e w3 ⟨rfl, rfl⟩
        go_wp2
        go_ret2
        refine ⟨_, by rw [HR.out.1]; rfl, by rw [HR.out.2]; exact Sl.of_owns (owns_nil w3 2 1 0), HBW.out⟩
    · obtain rfl : k = ps.length := by omega
      have HR := Lib.hid (rl_yes HD.out (show numsB (pieces s) = true by
        rw [← HPS.out]
        exact decide_eq_true ⟨h64', fun p hp => by
          obtain ⟨j, hj, rfl⟩ := List.getElem_of_mem hp
          exact HN.out j hj hj⟩))
      have HI := Lib.hid (show Ints wr (.slice a' ps.length c') (rlV s) from by
        rw [HR.out.2, ← HPS.out, ← numsTo_all]
        have := Sl.of_owns HO.out
        unfold Ints
        rwa [numsTo_len ps (Nat.le_refl _)])
      go_wp2
      go_ret2
      exact ⟨_, by rw [HR.out.1]; rfl, HI.out, HBW.out⟩

end Go.Proofs.YtijhlllajddlpaaDoor
/- The program's reading of a decimal text. Contract of ReadDecimal. -/
set_option linter.unusedSimpArgs false
set_option linter.unnecessarySimpa false
set_option linter.unusedVariables false
set_option maxRecDepth 100000
namespace Go.Proofs.YtijhlllajddlpaaDoor
open Go.RowKit

/-- The body, as the library trims it. -/
theorem trim_body (l : List UInt8) : Lib.trimPrefix l [45] = body l := by
  unfold Lib.trimPrefix body Lib.hasPrefix
  cases l with
  | nil => simp
  | cons b r =>
    by_cases h : b = 45
    · subst h; simp
    · have h2 : ¬ 45 = b := fun e => h e.symm
      simp [h, h2]
/-- What ParseInt hands back: the number or an error. -/
theorem parse_any (s : ByteArray) (w : World) (hs : s.size ≤ 1048576) (hL : Lay w) :
    Calls Tryd.prog 75 #[.string s, .int .i64 10, .int .i64 64] w fun e w' =>
      ((∃ v, Lib.parseIntB 64 s.data.toList = .ok v ∧ e = .returned (.tuple #[.int .i64 v, .nilIface])) ∨
       ((∀ v, Lib.parseIntB 64 s.data.toList ≠ .ok v) ∧ ∃ v t p, e = .returned (.tuple #[.int .i64 v, .iface t p]))) ∧ Below w.heap.size w w' := by
  cases hp : Lib.parseIntB 64 s.data.toList
  · rename_i v
    refine (Tryd.strconv_ParseInt_10_at64_ok s (by omega) v hp w).mono ?_
    rintro e w' ⟨rfl, hw⟩
    refine ⟨.inl ⟨v, rfl, rfl⟩, ?_⟩
    rcases hw with rfl | ⟨t, rfl⟩
    · exact Below.refl _ _
    · exact Lib.bytesWorld_below w _ t
  · obtain ⟨ev, hv, hev⟩ := hL.bad
    refine (Any.strconv_ParseInt_10_at64_syntax Tryd.laysC174 s (by omega) hp ev w hv hev).mono ?_
    rintro e w' ⟨N, rfl, _, _, hb⟩
    exact ⟨.inr ⟨fun v h => (by cases h), _, _, _, rfl⟩, hb⟩
  · obtain ⟨ev, hv, hev⟩ := hL.far
    refine (Any.strconv_ParseInt_10_at64_range Tryd.laysC174 s (by omega) hp ev w hv hev).mono ?_
    rintro e w' ⟨N, rfl, _, _, hb⟩
    exact ⟨.inr ⟨fun v h => (by cases h), _, _, _, rfl⟩, hb⟩

theorem itoa_ok {v : Int} (h18 : (body (Lib.itoa v)).length ≤ 18) : numOk (Lib.itoa v) = true := by
  refine decide_eq_true ?_
  by_cases g : v < 0
  · rw [itoa_negs g] at h18 ⊢
    have hb : body (45 :: Lib.decDigits v.natAbs) = Lib.decDigits v.natAbs := by simp [body]
    rw [hb] at h18 ⊢
    refine ⟨(dec_canon _).1, h18, fun _ e => ?_⟩
    have e0 : Lib.decDigits 0 = [48] := by rw [Lib.decDigits, dif_pos (by omega)]; rfl
    have := dec_inj (e.trans e0.symm)
    omega
  · rw [itoa_pos (by omega)] at h18 ⊢
    have hb : body (Lib.decDigits v.natAbs) = Lib.decDigits v.natAbs := if_neg (dec_head _)
    rw [hb] at h18 ⊢
    exact ⟨(dec_canon _).1, h18, fun e => absurd e (dec_head _)⟩
/-- A text of at most 18 digits that is no number's own is not written again. -/
theorem dec_again {l : List UInt8} (h0 : body l ≠ []) (h18 : (body l).length ≤ 18) {v : Int} (hp : Lib.parseIntB 64 l = .ok v) : Lib.itoa v = l ↔ numOk l = true := by
  constructor
  · intro h
    rw [← h] at h18 ⊢
    exact itoa_ok h18
  · intro h
    have := parse_num h
    rw [hp] at this
    cases this
    exact num_itoa h

set_option maxHeartbeats 2000000 in
theorem ReadDecimal_any (s : ByteArray) (w : World) (hs : s.size ≤ 1048576) (hL : Lay w) :
    Calls Tryd.prog 62 #[.string s] w fun e w' => e = .returned (.tuple #[.int .i64 (numV s.data.toList), .bool (numOk s.data.toList)]) ∧ Below w.heap.size w w' := by
  have HLY := Lib.hid hL
  have HT := Tryd.strings_TrimPrefix s ⟨#[45]⟩ w
  rw [show (⟨#[45]⟩ : ByteArray).data.toList = [45] from rfl, trim_body] at HT
  have HTR := Lib.hid HT
  obtain ⟨bd, hbd⟩ : ∃ b, b = (⟨(body s.data.toList).toArray⟩ : ByteArray) := ⟨_, rfl⟩
  have hbs : bd.size = (body s.data.toList).length := by rw [hbd]; simp [ByteArray.size]
  rw [← hbd] at HTR
  clear HT hL hbd
  by_cases e0 : bd.size = 0
  · have HN := Lib.hid (num_no_empty (l := s.data.toList) (List.eq_nil_of_length_eq_zero (by omega)))
    clear hbs
    go_enter Tryd.func62, Tryd.ntmps62
    go_wp2_with fail
    refine HTR.out.mono ?_
    rintro e w1 ⟨rfl, rfl⟩
    go_wp2
    go_ret2
    exact ⟨by rw [HN.out.1, HN.out.2]; rfl, Below.refl _ _⟩
  have f1 : decide ((bd.size : Int) < 1) = false := by simp only [decide_eq_false_iff_not]; omega
  have f2 : decide (bd.size < 1) = false := by simp only [decide_eq_false_iff_not]; omega
  by_cases e1 : 18 < bd.size
  · have HN := Lib.hid (num_no_long (l := s.data.toList) (by omega))
    clear hbs
    have f3 : decide (18 < (bd.size : Int)) = true := by simp only [decide_eq_true_eq]; omega
    go_enter Tryd.func62, Tryd.ntmps62
    go_wp2_with fail
    refine HTR.out.mono ?_
    rintro e w1 ⟨rfl, rfl⟩
    go_wp2
    go_ret2
    exact ⟨by rw [HN.out.1, HN.out.2]; rfl, Below.refl _ _⟩
  have f3 : decide (18 < (bd.size : Int)) = false := by simp only [decide_eq_false_iff_not]; omega
  have f4 : decide (18 < bd.size) = false := by simp only [decide_eq_false_iff_not]; omega
  have HP := Lib.hid (parse_any s w hs HLY.out)
  have HNE := Lib.hid (show body s.data.toList ≠ [] from fun e => by rw [e] at hbs; exact e0 hbs)
  have H18 := Lib.hid (show (body s.data.toList).length ≤ 18 by omega)
  clear hbs
  go_enter Tryd.func62, Tryd.ntmps62
  go_wp2_with fail
  refine HTR.out.mono ?_
  rintro e w1 ⟨rfl, rfl⟩
  go_wp2_with fail
  refine HP.out.mono ?_
  rintro e w2 ⟨hq, hb2⟩
  have HB2 := Lib.hid hb2
  rcases hq with ⟨v, hv, rfl⟩ | ⟨hv, v, t, p, rfl⟩
  · have HA := Lib.hid (dec_again HNE.out H18.out hv)
    have HV := Lib.hid hv
    have HI := Lib.hid (show I64 v by have := Lib.parseIntB_bounds hv; simp only [I64, Lit.wf, IntKind.min, IntKind.max, IntKind.signed, IntKind.bits]; simp at this ⊢; omega)
    clear hv hb2
    go_wp2_with fail
    refine (Decimal_any v _ HI.out (HLY.out.mono HB2.out).tab).mono ?_
    rintro e w3 ⟨rfl, hb3⟩
    have HB3 := Lib.hid (HB2.out.trans (hb3.mono HB2.out.size))
    clear hb3
    by_cases hn : numOk s.data.toList = true
    · have he : decB v = s := by
        unfold decB
        rw [HA.out.2 hn]
        exact bytesB_of s
      have HE := Lib.hid (show numV s.data.toList = v by have := parse_num hn; rw [HV.out] at this; cases this; rfl)
      have HN := Lib.hid hn
      clear hn
      rw [he]
      go_wp2
      go_ret2
      exact ⟨by rw [HE.out, HN.out]; rfl, HB3.out⟩
    · have he : ((decB v).toList == s.toList) = false := by
        rw [strEq]
        refine decide_eq_false fun e => hn (HA.out.1 ?_)
        unfold decB at e
        rw [← e, bytesB_list]
      have HN := Lib.hid (show numOk s.data.toList = false ∧ numV s.data.toList = 0 by
        have : numOk s.data.toList = false := by simpa using hn
        exact ⟨this, by unfold numV; rw [this]; rfl⟩)
      clear hn
      go_wp2
      go_ret2
      exact ⟨by rw [HN.out.1, HN.out.2]; rfl, HB3.out⟩
  · have HN := Lib.hid (show numOk s.data.toList = false ∧ numV s.data.toList = 0 by
      cases hn : numOk s.data.toList with
      | true => exact absurd (parse_num hn) (hv _)
      | false => exact ⟨rfl, by unfold numV; rw [hn]; rfl⟩)
    clear hv hb2
    go_wp2
    go_ret2
    exact ⟨by rw [HN.out.1, HN.out.2]; rfl, HB2.out⟩

end Go.Proofs.YtijhlllajddlpaaDoor
/- The program's reading of a list of numbers. Contract of ReadList. -/
set_option linter.unusedSimpArgs false
set_option linter.unnecessarySimpa false
set_option linter.unusedVariables false
set_option maxRecDepth 100000
namespace Go.Proofs.YtijhlllajddlpaaDoor
open Go.RowKit

theorem ReadDecimalP_any (p : List UInt8) (w : World) (hs : (bytesB p).size ≤ 1048576) (hL : Lay w) :
    Calls Tryd.prog 62 #[.string (bytesB p)] w fun e w' => e = .returned (.tuple #[.int .i64 (numV p), .bool (numOk p)]) ∧ Below w.heap.size w w' := by
  have := ReadDecimal_any (bytesB p) w hs hL
  rwa [bytesB_list] at this

set_option maxHeartbeats 4000000 in
theorem implReadList_any (s : ByteArray) (w : World) (hs : s.size ≤ 1048576) (hL : Lay w) :
    Calls Tryd.prog 31 #[.string s] w fun e w' => ∃ v, e = .returned (.tuple #[v, .bool (rlB s)]) ∧ Ints w' v (rlV s) ∧ Below w.heap.size w w' := by
  by_cases hd : s = bytesB [45]
  · have HR := Lib.hid (rl_dash hd)
    rw [dash_eq] at hd
    subst hd
    go_enter Tryd.func31, Tryd.ntmps31
    go_wp2
    go_ret2
    refine ⟨_, by rw [HR.out.1]; rfl, by rw [HR.out.2]; exact Sl.of_owns (owns_nil w 2 1 0), Below.refl _ _⟩
  have d0 := dash_no hd
  have HD := Lib.hid hd
  have hne := splitC_ne 44 s.data.toList
  have hlen := splitC_len_le 44 s.data.toList
  have hle : s.data.toList.length = s.size := by cases s; rfl
  obtain ⟨ps, hps⟩ : ∃ ps, ps = pieces s := ⟨_, rfl⟩
  have HPS := Lib.hid hps
  have hsp := split_any s 44 w hs hL
  rw [show splitC 44 s.data.toList = ps from hps.symm] at hsp hne hlen
  have HSP := Lib.hid hsp
  have HSZ := Lib.hid (show ∀ p ∈ ps, (bytesB p).size ≤ 1048576 from fun p hp => piece_size (by rw [hps] at hp; exact hp) hs)
  have hmx : ps.length ≤ 1048577 := by omega
  have HLY := Lib.hid hL
  have HLA := Lib.hid (list_again (s := s))
  clear hsp hd hps hs hL hlen hle
  go_enter Tryd.func31, Tryd.ntmps31
  go_wp2_with fail
  refine HSP.out.mono ?_
  rintro e w1 ⟨v, rfl, hp1, hb1⟩
  have hz1 := hb1.size
  have HB1 := Lib.hid hb1
  have HL1 := Lib.hid (HLY.out.mono hb1)
  obtain ⟨g, c, rfl, hcc, ht⟩ := hp1
  have HT := Lib.hid ht
  clear ht hb1
  go_wp2_with fail
  go_loopw [4, 6, 7, 8, 14] (fun o _ _ _ i wr => ∃ (k : Nat) (a' : Option Addr) (c' : Nat), k ≤ ps.length ∧ i = .int .i64 (k : Int) ∧ o = .slice a' k c' ∧ wr.ownsRow w1.heap.size 2 1 (.slice a' k c') k ((numsTo ps k).map (Value.int .i64)) ∧ Below w1.heap.size w1 wr) (fun _ _ _ _ i _ => ps.length - (intOf i).toNat)
  case atStart => exact ⟨0, none, 0, Nat.zero_le _, by go_num, rfl, owns_nil w1 2 1 _, Below.refl _ _⟩
  case round =>
    obtain ⟨k, a', c', hk, rfl, rfl, ho, hb⟩ := hrel
    have hz := hb.size
    have HB := Lib.hid hb; have HO := Lib.hid ho
    have HBW := Lib.hid (HB1.out.trans (hb.mono hz1))
    clear ho
    by_cases hlt : k < ps.length
    · have e1 : wr.cell? ⟨g, k, none⟩ = some (.string (bytesB ps[k])) := cellB hb (HT.out k hlt)
      have HS1 := Lib.hid (HSZ.out _ (List.getElem_mem hlt))
      have HST := Lib.hid (numsTo_step hlt)
      clear hb
      go_wp2_with fail
      refine (ReadDecimalP_any _ _ HS1.out (HL1.out.mono HB.out)).mono ?_
      rintro e w2 ⟨rfl, hb2⟩
      have hz2 := hb2.size
      have HO2 := Lib.hid (owns_mono HO.out hb2)
      have HB2 := Lib.hid (HB.out.trans (hb2.mono hz))
      clear hb2 HO
      go_wp2_with (at_builtin; refine append_one_at rfl _ _ 52 rfl w1.heap.size 2 (.int .i64 0) 1 8 Tryd.underlying52 info_int rfl (by decide) _ k _ rfl HO2.out [.int .i64 (numV ps[k])] rfl (by simp [Value.oneCell']) w2.heap.size rfl rfl (by omega) (by decide) (by omega) ?_)
      intro a7 c7 w7 ho7 hg7 hb7 _
      have HN7 := Lib.hid (show w7.ownsRow w1.heap.size 2 1 (.slice a7 (k + 1) c7) (k + 1) ((numsTo ps (k + 1)).map (Value.int .i64)) from by rw [HST.out, List.map_append]; exact ho7)
      have HB7 := Lib.hid (HB2.out.trans hb7)
      clear ho7 hg7 hb7 HO2
      go_wp2
      go_roundw
      case rel => exact ⟨k + 1, a7, c7, by omega, by go_num, rfl, HN7.out, HB7.out⟩
      case measure => simp [intOf] <;> omega
    · obtain rfl : k = ps.length := by omega
      have HI := Lib.hid (show Ints wr (.slice a' ps.length c') (ps.map numV) from by
        rw [← numsTo_all]
        have := Sl.of_owns HO.out
        unfold Ints
        rwa [numsTo_len ps (Nat.le_refl _)])
      have HV := Lib.hid (show ∀ x ∈ ps.map numV, I64 x from fun x hx => by
        obtain ⟨p, _, rfl⟩ := List.mem_map.1 hx
        exact num_i64 p)
      have HM := Lib.hid (show (ps.map numV).length ≤ 1048577 by rw [List.length_map]; exact hmx)
      go_wp2_with fail
      refine (ListText_any _ _ _ HI.out (by have := HM.out; omega) HV.out (HL1.out.mono HB.out).tab).mono ?_
      rintro e w2 ⟨rfl, hb2⟩
      have HB2 := Lib.hid (HB1.out.trans ((HB.out.trans (hb2.mono hz)).mono hz1))
      have HI2 := Lib.hid (Ints.mono HI.out hb2)
      clear hb2
      by_cases hn : numsB (pieces s) = true
      · have he : listT (ps.map numV) = s := by rw [HPS.out]; exact HLA.out.2 hn
        have HR := Lib.hid (rl_yes HD.out hn)
        have HIV := Lib.hid (show Ints w2 (.slice a' ps.length c') (rlV s) by rw [HR.out.2, ← HPS.out]; exact HI2.out)
        clear hn
        rw [he]
        go_wp2
        go_ret2
        exact ⟨_, by rw [HR.out.1]; rfl, HIV.out, HB2.out⟩
      · have he : ((listT (ps.map numV)).toList == s.toList) = false := by
          rw [strEq]
          exact decide_eq_false fun e => hn (HLA.out.1 (by rw [← HPS.out]; exact e))
        have HR := Lib.hid (rl_no HD.out (by simpa using hn))
        clear hn
        go_wp2
        go_ret2
        exact ⟨_, by rw [HR.out.1]; rfl, by rw [HR.out.2]; exact Sl.of_owns (owns_nil w2 2 1 0), HB2.out⟩

end Go.Proofs.YtijhlllajddlpaaDoor
/- Both packages read an action. Contracts of ReadAction. -/
set_option linter.unusedSimpArgs false
set_option linter.unnecessarySimpa false
set_option linter.unusedVariables false
set_option maxRecDepth 100000
namespace Go.Proofs.YtijhlllajddlpaaDoor
open Go.RowKit

theorem pairs_get : ∀ (j : Nat) (n : List Int), 2 * j + 1 < n.length → (pairs n)[j]? = some ⟨n.getD (2 * j) 0, n.getD (2 * j + 1) 0⟩
  | 0, a :: b :: r, _ => rfl
  | j + 1, a :: b :: r, h => by
    have := pairs_get j r (by simp only [List.length_cons] at h; omega)
    simp only [pairs, List.getElem?_cons_succ]
    rw [this, show 2 * (j + 1) = 2 * j + 1 + 1 by omega, show 2 * j + 1 + 1 + 1 = (2 * j + 1) + 1 + 1 by omega]
    simp only [List.getD_cons_succ]
  | _, [a], h => by simp at h
  | _, [], h => by simp at h
theorem lev_step {xs : List Int} (hs : shapeOk xs) {j : Nat} (h : 3 + 2 * j < xs.length) :
    ∃ h2 : 3 + 2 * j + 1 < xs.length, j < (actOf xs).levs.length ∧ (actOf xs).levs.take (j + 1) = (actOf xs).levs.take j ++ [⟨xs[3 + 2 * j], xs[3 + 2 * j + 1]⟩] := by
  have h2 : 3 + 2 * j + 1 < xs.length := by have := hs.2; omega
  refine ⟨h2, ?_⟩
  have e := pairs_get j (xs.drop 3) (by rw [List.length_drop]; omega)
  have hj : j < (pairs (xs.drop 3)).length := (List.getElem?_eq_some_iff.1 e).1
  have e2 := (List.getElem?_eq_some_iff.1 e).2
  refine ⟨hj, ?_⟩
  show (pairs (xs.drop 3)).take (j + 1) = _
  rw [List.take_succ_eq_append_getElem hj, e2]
  congr 3
  · rw [List.getD_eq_getElem?_getD, List.getElem?_drop, List.getElem?_eq_getElem (by omega)]; rfl
  · rw [List.getD_eq_getElem?_getD, List.getElem?_drop, show 3 + (2 * j + 1) = 3 + 2 * j + 1 by omega, List.getElem?_eq_getElem h2]; rfl
theorem own_zeroR (B E : Nat) (w : World) : OwnAct B E w (.agg #[.int .i64 0, .slice none 0 0, .int .i64 0, .int .i64 0]) ⟨0, [], 0, 0⟩ := ⟨_, rfl, owns_nil _ _ _ _, fun k hk => by simp [Value.ownBlock] at hk⟩



set_option maxHeartbeats 4000000 in
theorem specReadAction_any (s : ByteArray) (w : World) (hs : s.size ≤ 1048576) :
    Calls Tryd.prog 11 #[.string s] w fun e w' => ∃ v, e = .returned (.tuple #[v, .bool (rdB s)]) ∧ OwnAct w.heap.size w'.heap.size w' v (rdV s) ∧ Below w.heap.size w w' := by
  have HRL := Lib.hid fun w => specReadList_any s w hs
  clear hs
  go_enter Tryd.func11, Tryd.ntmps11
  go_wp2_with fail
  have B0 := Lib.hid (Box.alloc w [.int .i64 0, .slice none 0 0, .int .i64 0, .int .i64 0] 29 w.heap.size rfl)
  refine (HRL.out _).mono ?_
  rintro e w1 ⟨v, rfl, hi, hb1⟩
  have B0 := Lib.hid (B0.out.mono hb1)
  have HB1 := Lib.hid (Below.trans (belowA w (.cells #[.int .i64 0, .slice none 0 0, .int .i64 0, .int .i64 0] 29)) (hb1.mono (by simp)))
  have hz1 : w.heap.size < w1.heap.size := B0.out.lt
  obtain ⟨a, ca, rfl, hc1, hc2, _⟩ := id hi
  have HI := Lib.hid hi
  have hlen := rlV_len s
  clear hb1 hi
  cases hok : rlB s
  · have HR := Lib.hid (rd_no (s := s) (fun h => by rw [hok] at h; cases h.1))
    clear hok hc1 hc2
    have r0 := B0.out.at' 0 _ rfl
    have r1 := B0.out.at' 1 _ rfl
    have r2 := B0.out.at' 2 _ rfl
    have r3 := B0.out.at' 3 _ rfl
    have f0 := B0.out.fr 0
    have f1 := B0.out.fr 1
    have f2 := B0.out.fr 2
    have f3 := B0.out.fr 3
    have l0 := B0.out.lt
    go_wp2
    refine bodyPost_ret (v := .tuple #[.agg #[.int .i64 0, .slice none 0 0, .int .i64 0, .int .i64 0], .bool false]) (by simp [results, Tryd.results11, go_sem, r0, r1, r2, r3, f0, f1, f2, f3, l0]) rfl ⟨_, by rw [HR.out.1], by rw [HR.out.2]; exact own_zeroR _ _ _, ?_⟩
    have hbw := HB1.out
    (repeat (first | with_reducible exact Below.refl _ _ | with_reducible exact hbw | (with_reducible refine Below.setCell ?_ ?_ _; rotate_left; · first | exact Nat.le_refl _ | omega | (simp; done) | (simp; omega)) | (with_reducible refine Below.alloc ?_ ?_ _; rotate_left; · first | exact Nat.le_refl _ | omega | (simp; done) | (simp; omega)) | with_reducible refine below_drewN ?_ _ | with_reducible refine Below.drew ?_))
  by_cases hsh : shapeOk (rlV s)
  · skip
    have h3 : 3 ≤ (rlV s).length := hsh.1
    have d1 : decide (((rlV s).length : Int) < 3) = false := by simp; omega
    have d2 : decide ((rlV s).length < 3) = false := by simp; omega
    have t1 : ((rlV s).length : Int).tmod 2 = 1 := by rw [Int.tmod_eq_emod_of_nonneg (by omega)]; unfold shapeOk at hsh; omega
    have HSH := Lib.hid hsh
    obtain ⟨b, o, rfl, hx⟩ := HI.out.cells (by simp; omega)
    obtain ⟨xs, hxs⟩ : ∃ xs, xs = rlV s := ⟨_, rfl⟩
    rw [← hxs] at hx h3 d1 d2 t1 HI hc1 hlen HSH ⊢
    have HXS := Lib.hid hxs
    have HX := Lib.hid (show ∀ i (hi : i < xs.length), w1.cell? ⟨b, o + i, none⟩ = some (.int .i64 xs[i]) from fun i hi => hx i _ (by simp [hi]))
    have hb1 : b < w1.heap.size := World.block_lt_of_cell? w1 _ (HX.out 0 (by omega))
    have x0 := HX.out 0 (by omega)
    have x1 := HX.out 1 (by omega)
    have x2 := HX.out 2 (by omega)
    rw [Nat.add_zero] at x0
    have n0 : ∀ y, (ext w1.drew none y).cell? ⟨b, o, none⟩ = some (.int .i64 xs[0]) := fun y => (cell?_ext (w := w1.drew) (by simpa using hb1) (by simp)).trans x0
    have n1 : ∀ y, (ext w1.drew none y).cell? ⟨b, o + 1, none⟩ = some (.int .i64 xs[1]) := fun y => (cell?_ext (w := w1.drew) (by simpa using hb1) (by simp)).trans x1
    have n2 : ∀ y, (ext w1.drew none y).cell? ⟨b, o + 2, none⟩ = some (.int .i64 xs[2]) := fun y => (cell?_ext (w := w1.drew) (by simpa using hb1) (by simp)).trans x2
    have p0 : 0 < xs.length := by omega
    have p1 : 1 < xs.length := by omega
    have p2 : 2 < xs.length := by omega
    have q1 : (1 : Int) < (xs.length : Int) := by omega
    have q2 : (2 : Int) < (xs.length : Int) := by omega
    clear hsh hx hxs hc2 x0 x1 x2
    go_wp2_with fail
    refine wp_region_ordG [(0, 1), (1, 1), (2, 1), (3, 1), (4, 1), (5, 1), (6, 1), (7, 1), (8, 1), (9, 1), (10, 0), (11, 0)] [10, 11] (none) (by kernel_rfl) (by kernel_rfl) ?_
    (repeat ((first | with_reducible refine wpOrdG_soft (fun K hK => ?_) | with_reducible refine wpOrdG_pre (fun K hK => ?_)); simp only [List.getElem?_toArray, List.getElem?_cons_zero, List.getElem?_cons_succ]; first | (go_simp; refine hK _ ?_) | (simp only [undef]; go_simp; refine hK _ ?_); clear hK K))
    (with_reducible refine wpOrdG_hard ?_; simp only [List.getElem?_toArray, List.getElem?_cons_zero, List.getElem?_cons_succ])
    go_wp2_with fail
    refine And.intro (World.grownBy_alloc _ _ _) ?_
    (repeat ((first | with_reducible refine wpOrdG_soft (fun K hK => ?_) | with_reducible refine wpOrdG_pre (fun K hK => ?_)); simp only [List.getElem?_toArray, List.getElem?_cons_zero, List.getElem?_cons_succ]; first | (go_simp; refine hK _ ?_) | (simp only [undef]; go_simp; refine hK _ ?_); clear hK K))
    (with_reducible refine wpOrdG_hard ?_; simp only [List.getElem?_toArray, List.getElem?_cons_zero, List.getElem?_cons_succ])
    go_wp2_with fail
    refine And.intro (World.grownBy_alloc _ _ _) ?_
    (repeat ((first | with_reducible refine wpOrdG_soft (fun K hK => ?_) | with_reducible refine wpOrdG_pre (fun K hK => ?_)); simp only [List.getElem?_toArray, List.getElem?_cons_zero, List.getElem?_cons_succ]; first | (go_simp; refine hK _ ?_) | (simp only [undef]; go_simp; refine hK _ ?_); clear hK K))
    (with_reducible refine wpOrdG_nil ?_); refine NoPanic.normal ?_
    have BQ := Lib.hid (Box.alloc w1 [.int .i64 xs[0], .slice none 0 0, .int .i64 xs[1], .int .i64 xs[2]] 29 w1.heap.size rfl)
    clear n0 n1 n2
    go_wp2_with fail
    go_loopw [7] (fun i wr => ∃ (j p : Nat) (a' : Option Addr) (c' : Nat), p = 3 + 2 * j ∧ p ≤ xs.length ∧ i = .int .i64 (p : Int) ∧ Box wr w1.heap.size [.int .i64 xs[0], .slice a' j c', .int .i64 xs[1], .int .i64 xs[2]] ∧ wr.ownsRow (w1.heap.size + 1) 54 2 (.slice a' j c') j (((actOf xs).levs.take j).flatMap Lev.cells) ∧ Below w1.heap.size w1 wr) (fun i _ => xs.length - (intOf i).toNat)
    case atStart => exact ⟨0, 3, none, 0, rfl, h3, by go_num, ⟨BQ.out.lt, BQ.out.at', BQ.out.fr⟩, by simpa using owns_nil _ 54 2 _, Below.drew (belowA _ _)⟩
    case round =>
      obtain ⟨j, p, a', c', hp, hpl, rfl, hq, ho, hb⟩ := hrel
      have FQ := Lib.hid hq; have HO := Lib.hid ho; have HB := Lib.hid hb
      have hlq := hq.lt
      have c0 := hq.at' 1 _ rfl
      have g0 := hq.fr 1
      have HP := Lib.hid hp
      have hj := (show j ≤ 31 by omega)
      clear BQ hq ho
      by_cases hlt : p < xs.length
      · obtain ⟨h2, hjl, hst⟩ := lev_step HSH.out (j := j) (by omega)
        have h2' : p + 1 < xs.length := by omega
        obtain ⟨r, hr⟩ : ∃ r, r = p + 1 := ⟨_, rfl⟩
        have hrl : r < xs.length := by omega
        have HST := Lib.hid (show (actOf xs).levs.take (j + 1) = (actOf xs).levs.take j ++ [⟨xs[p], xs[r]⟩] by subst hr; subst hp; exact hst)
        have e1 := cellB hb (HX.out p hlt)
        have e2 := cellB hb (HX.out r hrl)
        have wr1 : IntKind.i64.wrap ((p : Int) + 1) = (r : Int) := by rw [IntWalk.i64_in _ (by omega)]; omega
        have q5 : (r : Int) < (xs.length : Int) := by omega
        have HRE := Lib.hid hr
        have hbr : b < wr.heap.size := by have := hb.size; omega
        have n1 : ∀ y, (extT wr.drew w1.heap.size wr.heap.size y).cell? ⟨b, o + p, none⟩ = some (.int .i64 xs[p]) := fun y => (cell?_extT_lo (w := wr.drew) (by simpa using hbr) hb1).trans e1
        have n2 : ∀ y, (extT wr.drew w1.heap.size wr.heap.size y).cell? ⟨b, o + r, none⟩ = some (.int .i64 xs[r]) := fun y => (cell?_extT_lo (w := wr.drew) (by simpa using hbr) hb1).trans e2
        have n0 : ∀ y, (ext wr.drew none y).cell? ⟨w1.heap.size, 1, none⟩ = some (.slice a' j c') := fun y => (cell?_ext (w := wr.drew) (by simpa using hlq) (by simp)).trans c0
        have q4 : (p : Int) < (xs.length : Int) := by omega
        clear hst h2 h2' hb e1 e2 hp hr
        go_wp2_with fail
        refine wp_region_ord3 [(0, 1), (1, 3), (2, 1), (3, 1), (4, 1), (5, 1), (6, 1), (7, 1), (8, 1), (9, 1), (10, 1), (11, 1), (12, 4), (13, 0), (14, 1), (15, 0)] [12, 13, 15] [13, 15] (w1.heap.size) (wr.heap.size) (by kernel_rfl) (by kernel_rfl) ?_
        (repeat ((first | with_reducible refine wpOrd3_soft (fun K hK => ?_) | with_reducible refine wpOrd3_pre (fun K hK => ?_) | with_reducible refine wpOrd3_late (fun K hK => ?_)); simp only [List.getElem?_toArray, List.getElem?_cons_zero, List.getElem?_cons_succ]; first | (go_simp; refine hK _ ?_) | (simp only [undef]; go_simp; refine hK _ ?_); clear hK K))
        ((first | with_reducible refine wpOrd3_hard ?_ | with_reducible refine wpOrd3_new ?_); simp only [List.getElem?_toArray, List.getElem?_cons_zero, List.getElem?_cons_succ])
        go_wp2_with fail
        refine And.intro (World.grownBy_alloc _ _ _) ?_
        (repeat ((first | with_reducible refine wpOrd3_soft (fun K hK => ?_) | with_reducible refine wpOrd3_pre (fun K hK => ?_) | with_reducible refine wpOrd3_late (fun K hK => ?_)); simp only [List.getElem?_toArray, List.getElem?_cons_zero, List.getElem?_cons_succ]; first | (go_simp; refine hK _ ?_) | (simp only [undef]; go_simp; refine hK _ ?_); clear hK K))
        ((first | with_reducible refine wpOrd3_hard ?_ | with_reducible refine wpOrd3_new ?_); simp only [List.getElem?_toArray, List.getElem?_cons_zero, List.getElem?_cons_succ])
        refine append_one_atD rfl _ _ 27 rfl (w1.heap.size + 1) 54 _ 2 16 Tryd.underlying27 info_Lever rfl (by decide) _ j _ rfl HO.out [.int .i64 xs[p], .int .i64 xs[r]] rfl (by simp [Value.oneCell']) wr.heap.size rfl rfl (by omega) (by decide) (by omega) ?_
        intro a5 cap5 w5 ho5 hg5 hb5
        have hst : Below (w1.heap.size + 1) wr w5 := Below.trans ((Below.refl _ wr).drew) hb5
        have HT5 := Lib.hid (Touch.of_grown (B := w1.heap.size) (E := wr.heap.size) hg5 (fun q hq => by have := HO.out.lt q hq; omega))
        have bq := FQ.out.step hst (by omega)
        have c5 := bq.at' 1 _ rfl
        have g5 := bq.fr 1
        have l5 := bq.lt
        have GQ := Lib.hid (bq.set (j := 1) (.slice a5 (j + 1) cap5) (by simp))
        have GO := Lib.hid (ownsRow_setCell_below (a := ⟨w1.heap.size, 1, none⟩) ho5 (by simp) (.slice a5 (j + 1) cap5))
        have hz5 := hst.size
        have GB := Lib.hid (((Touch.refl w1.heap.size (w1.heap.size + 1) w5).setCell (p := ⟨w1.heap.size, 1, none⟩) (by simp) (.slice a5 (j + 1) cap5)).below (HB.out.trans (hst.mono (by omega))) (Nat.le_refl _) (by omega))
        clear ho5 hg5 hb5 hst bq n0 n1 n2 c0 g0 FQ HO HB
        go_wp2_with fail
        refine And.intro HT5.out ?_
        (repeat ((first | with_reducible refine wpOrd3_soft (fun K hK => ?_) | with_reducible refine wpOrd3_pre (fun K hK => ?_) | with_reducible refine wpOrd3_late (fun K hK => ?_)); simp only [List.getElem?_toArray, List.getElem?_cons_zero, List.getElem?_cons_succ]; first | (go_simp; refine hK _ ?_) | (simp only [undef]; go_simp; refine hK _ ?_); clear hK K))
        ((first | with_reducible refine wpOrd3_hard ?_ | with_reducible refine wpOrd3_new ?_); simp only [List.getElem?_toArray, List.getElem?_cons_zero, List.getElem?_cons_succ])
        go_wp2_with fail
        refine And.intro (HT5.out.setCell (by simp; omega) _) ?_
        (with_reducible refine wpOrd3_nil ?_); refine NoPanic.normal ?_
        go_wp2
        go_roundw
        case rel => exact ⟨j + 1, p + 2, a5, cap5, by have := HP.out; omega, by have := HRE.out; have := HSH.out.2; have := HP.out; omega, by go_num, GQ.out, by rw [HST.out, List.flatMap_append]; exact GO.out, GB.out⟩
        case measure => simp [intOf] <;> omega
      · obtain rfl : p = xs.length := by omega
        have hj2 : j = (actOf xs).levs.length := by have := (actOf_list HSH.out).2; have := HP.out; omega
        subst hj2
        have HLV := Lib.hid (show OwnRow (w1.heap.size + 1) wr.heap.size wr 54 2 (.slice a' (actOf xs).levs.length c') (actOf xs).levs.length ((actOf xs).levs.flatMap Lev.cells) by
          have := HO.out
          rw [List.take_length] at this
          exact OwnRow.mk' this)
        have k0 : (actOf xs).note = xs[0] := by show xs.getD 0 0 = xs[0]; simp [p0]
        have k1 : (actOf xs).slack = xs[1] := by show xs.getD 1 0 = xs[1]; simp [p1]
        have k2 : (actOf xs).weight = xs[2] := by show xs.getD 2 0 = xs[2]; simp [p2]
        have FQ := Lib.hid (show Box wr w1.heap.size [.int .i64 (actOf xs).note, .slice a' (actOf xs).levs.length c', .int .i64 (actOf xs).slack, .int .i64 (actOf xs).weight] by rw [k0, k1, k2]; exact FQ.out)
        have B0 := Lib.hid (B0.out.mono (hb.mono (Nat.le_refl _)))
        have HBW := Lib.hid (HB1.out.trans (hb.mono (by omega)))
        obtain ⟨x, hxe⟩ : ∃ x, x = actOf xs := ⟨_, rfl⟩
        rw [← hxe] at FQ HLV
        have HXE := Lib.hid hxe
        have u0 := FQ.out.at' 0 _ rfl
        have u1 := FQ.out.at' 1 _ rfl
        have u2 := FQ.out.at' 2 _ rfl
        have u3 := FQ.out.at' 3 _ rfl
        clear k0 k1 k2 HO HB hb hxe c0 g0 q1 q2
        go_wp2_with fail
        refine (l24One_any _ 0 _ x _ ⟨by simpa using u0, by simpa using u1, by simpa using u2, by simpa using u3, Levs.of_owns HLV.out.1⟩).mono ?_
        cases hval : validActB x
        · have HR := Lib.hid (rd_no (s := s) (fun h => by
            have h3 := h.2.2
            rw [← HXS.out, ← HXE.out] at h3
            have : validActB x = true := by simpa [validActB] using h3
            rw [hval] at this; cases this))
          rintro e w2 ⟨rfl, rfl⟩
          clear hval u0 u1 u2 u3
          have r0 := B0.out.at' 0 _ rfl
          have r1 := B0.out.at' 1 _ rfl
          have r2 := B0.out.at' 2 _ rfl
          have r3 := B0.out.at' 3 _ rfl
          have f0 := B0.out.fr 0
          have f1 := B0.out.fr 1
          have f2 := B0.out.fr 2
          have f3 := B0.out.fr 3
          have l0 := B0.out.lt
          go_wp2
          refine bodyPost_ret (v := .tuple #[.agg #[.int .i64 0, .slice none 0 0, .int .i64 0, .int .i64 0], .bool false]) (by simp [results, Tryd.results11, go_sem, r0, r1, r2, r3, f0, f1, f2, f3, l0]) rfl ⟨_, by rw [HR.out.1], by rw [HR.out.2]; exact own_zeroR _ _ _, ?_⟩
          have hbw := HBW.out
          (repeat (first | with_reducible exact Below.refl _ _ | with_reducible exact hbw | (with_reducible refine Below.setCell ?_ ?_ _; rotate_left; · first | exact Nat.le_refl _ | omega | (simp; done) | (simp; omega)) | (with_reducible refine Below.alloc ?_ ?_ _; rotate_left; · first | exact Nat.le_refl _ | omega | (simp; done) | (simp; omega)) | with_reducible refine below_drewN ?_ _ | with_reducible refine Below.drew ?_))
        · have HR := Lib.hid (rd_yes (s := s) hok (by rw [← HXS.out]; exact HSH.out) (by rw [← HXS.out, ← HXE.out]; simpa [validActB] using hval))
          rintro e w2 ⟨rfl, rfl⟩
          clear hval
          have r0 := B0.out.at' 0 _ rfl
          have r1 := B0.out.at' 1 _ rfl
          have r2 := B0.out.at' 2 _ rfl
          have r3 := B0.out.at' 3 _ rfl
          have f0 := B0.out.fr 0
          have f1 := B0.out.fr 1
          have f2 := B0.out.fr 2
          have f3 := B0.out.fr 3
          have l0 := B0.out.lt
          go_wp2
          refine bodyPost_ret (v := .tuple #[.agg #[.int .i64 x.note, .slice a' x.levs.length c', .int .i64 x.slack, .int .i64 x.weight], .bool true]) (by simp [results, Tryd.results11, go_sem, r0, r1, r2, r3, f0, f1, f2, f3, l0]) rfl ⟨_, by rw [HR.out.1], ?_, ?_⟩
          · rw [HR.out.2, ← HXS.out, ← HXE.out]
            refine ⟨_, rfl, ?_⟩
            refine (HLV.out.touch (B' := w.heap.size) (E' := w.heap.size + 1) ?_ (Or.inr (by omega))).wide (by omega) (by first | (simp; done) | (simp; omega))
            have htc := Touch.refl w.heap.size (w.heap.size + 1) w2
            (repeat (first | with_reducible exact Touch.refl _ _ _ | with_reducible exact htc | (with_reducible refine Touch.setCell ?_ ?_ _; rotate_left; · (simp only; omega)) | (with_reducible refine Touch.setNew ?_ ?_ _; rotate_left; · (first | (simp only; omega) | (simp; done) | (simp; omega))) | with_reducible refine Touch.alloc ?_ _ | with_reducible refine Touch.drewN ?_ _ | with_reducible refine Touch.drew ?_))
          · have hbw := HBW.out
            (repeat (first | with_reducible exact Below.refl _ _ | with_reducible exact hbw | (with_reducible refine Below.setCell ?_ ?_ _; rotate_left; · first | exact Nat.le_refl _ | omega | (simp; done) | (simp; omega)) | (with_reducible refine Below.alloc ?_ ?_ _; rotate_left; · first | exact Nat.le_refl _ | omega | (simp; done) | (simp; omega)) | with_reducible refine below_drewN ?_ _ | with_reducible refine Below.drew ?_))
  · have HR := Lib.hid (rd_no (s := s) (fun h => hsh h.2.1))
    by_cases h3 : (rlV s).length < 3
    · have d1 : decide (((rlV s).length : Int) < 3) = true := by simp; omega
      clear hsh hc1 hc2
      have r0 := B0.out.at' 0 _ rfl
      have r1 := B0.out.at' 1 _ rfl
      have r2 := B0.out.at' 2 _ rfl
      have r3 := B0.out.at' 3 _ rfl
      have f0 := B0.out.fr 0
      have f1 := B0.out.fr 1
      have f2 := B0.out.fr 2
      have f3 := B0.out.fr 3
      have l0 := B0.out.lt
      go_wp2
      refine bodyPost_ret (v := .tuple #[.agg #[.int .i64 0, .slice none 0 0, .int .i64 0, .int .i64 0], .bool false]) (by simp [results, Tryd.results11, go_sem, r0, r1, r2, r3, f0, f1, f2, f3, l0]) rfl ⟨_, by rw [HR.out.1], by rw [HR.out.2]; exact own_zeroR _ _ _, ?_⟩
      have hbw := HB1.out
      (repeat (first | with_reducible exact Below.refl _ _ | with_reducible exact hbw | (with_reducible refine Below.setCell ?_ ?_ _; rotate_left; · first | exact Nat.le_refl _ | omega | (simp; done) | (simp; omega)) | (with_reducible refine Below.alloc ?_ ?_ _; rotate_left; · first | exact Nat.le_refl _ | omega | (simp; done) | (simp; omega)) | with_reducible refine below_drewN ?_ _ | with_reducible refine Below.drew ?_))
    · have d1 : decide (((rlV s).length : Int) < 3) = false := by simp; omega
      have d2 : decide ((rlV s).length < 3) = false := by simp; omega
      have t0 : ((rlV s).length : Int).tmod 2 = 0 := by rw [Int.tmod_eq_emod_of_nonneg (by omega)]; unfold shapeOk at hsh; omega
      obtain ⟨L, hL⟩ : ∃ L : Int, L = ((rlV s).length : Int) := ⟨_, rfl⟩
      clear hsh hc1 hc2
      have r0 := B0.out.at' 0 _ rfl
      have r1 := B0.out.at' 1 _ rfl
      have r2 := B0.out.at' 2 _ rfl
      have r3 := B0.out.at' 3 _ rfl
      have f0 := B0.out.fr 0
      have f1 := B0.out.fr 1
      have f2 := B0.out.fr 2
      have f3 := B0.out.fr 3
      have l0 := B0.out.lt
      go_wp2
      refine bodyPost_ret (v := .tuple #[.agg #[.int .i64 0, .slice none 0 0, .int .i64 0, .int .i64 0], .bool false]) (by simp [results, Tryd.results11, go_sem, r0, r1, r2, r3, f0, f1, f2, f3, l0]) rfl ⟨_, by rw [HR.out.1], by rw [HR.out.2]; exact own_zeroR _ _ _, ?_⟩
      have hbw := HB1.out
      (repeat (first | with_reducible exact Below.refl _ _ | with_reducible exact hbw | (with_reducible refine Below.setCell ?_ ?_ _; rotate_left; · first | exact Nat.le_refl _ | omega | (simp; done) | (simp; omega)) | (with_reducible refine Below.alloc ?_ ?_ _; rotate_left; · first | exact Nat.le_refl _ | omega | (simp; done) | (simp; omega)) | with_reducible refine below_drewN ?_ _ | with_reducible refine Below.drew ?_))

theorem rlB_shape {s : ByteArray} (h : shapeOk (rlV s)) : rlB s = true := by
  by_cases hd : s = bytesB [45]
  · exact (rl_dash hd).1
  · cases hn : numsB (pieces s) with
    | true => exact (rl_yes hd hn).1
    | false => rw [(rl_no hd hn).2] at h; exact absurd h.1 (by simp)

set_option maxHeartbeats 4000000 in
theorem implReadAction_any (s : ByteArray) (w : World) (hs : s.size ≤ 1048576) (hL : Lay w) :
    Calls Tryd.prog 12 #[.string s] w fun e w' => ∃ v, e = .returned (.tuple #[v, .bool (rdB s)]) ∧ OwnAct w.heap.size w'.heap.size w' v (rdV s) ∧ Below w.heap.size w w' := by
  have HRL := Lib.hid fun w hL => implReadList_any s w hs hL
  have HLY := Lib.hid hL
  clear hs hL
  go_enter Tryd.func12, Tryd.ntmps12
  go_wp2_with fail
  have B0 := Lib.hid (Box.alloc w [.int .i64 0, .slice none 0 0, .int .i64 0, .int .i64 0] 29 w.heap.size rfl)
  refine (HRL.out _ (HLY.out.mono (belowA _ _))).mono ?_
  rintro e w1 ⟨v, rfl, hi, hb1⟩
  have B0 := Lib.hid (B0.out.mono hb1)
  have HB1 := Lib.hid (Below.trans (belowA w (.cells #[.int .i64 0, .slice none 0 0, .int .i64 0, .int .i64 0] 29)) (hb1.mono (by simp)))
  have hz1 : w.heap.size < w1.heap.size := B0.out.lt
  obtain ⟨a, ca, rfl, hc1, hc2, _⟩ := id hi
  have HI := Lib.hid hi
  have hlen := rlV_len s
  clear hb1 hi
  by_cases hsh : shapeOk (rlV s)
  · have hok := rlB_shape hsh
    rw [hok]
    have h3 : 3 ≤ (rlV s).length := hsh.1
    have d1 : decide (((rlV s).length : Int) < 3) = false := by simp; omega
    have d2 : decide ((rlV s).length < 3) = false := by simp; omega
    have t1 : ((rlV s).length : Int).tmod 2 = 1 := by rw [Int.tmod_eq_emod_of_nonneg (by omega)]; unfold shapeOk at hsh; omega
    have HSH := Lib.hid hsh
    obtain ⟨b, o, rfl, hx⟩ := HI.out.cells (by simp; omega)
    obtain ⟨xs, hxs⟩ : ∃ xs, xs = rlV s := ⟨_, rfl⟩
    rw [← hxs] at hx h3 d1 d2 t1 HI hc1 hlen HSH ⊢
    have HXS := Lib.hid hxs
    have HX := Lib.hid (show ∀ i (hi : i < xs.length), w1.cell? ⟨b, o + i, none⟩ = some (.int .i64 xs[i]) from fun i hi => hx i _ (by simp [hi]))
    have hb1 : b < w1.heap.size := World.block_lt_of_cell? w1 _ (HX.out 0 (by omega))
    have x0 := HX.out 0 (by omega)
    have x1 := HX.out 1 (by omega)
    have x2 := HX.out 2 (by omega)
    rw [Nat.add_zero] at x0
    have n0 : ∀ y, (ext w1.drew none y).cell? ⟨b, o, none⟩ = some (.int .i64 xs[0]) := fun y => (cell?_ext (w := w1.drew) (by simpa using hb1) (by simp)).trans x0
    have n1 : ∀ y, (ext w1.drew none y).cell? ⟨b, o + 1, none⟩ = some (.int .i64 xs[1]) := fun y => (cell?_ext (w := w1.drew) (by simpa using hb1) (by simp)).trans x1
    have n2 : ∀ y, (ext w1.drew none y).cell? ⟨b, o + 2, none⟩ = some (.int .i64 xs[2]) := fun y => (cell?_ext (w := w1.drew) (by simpa using hb1) (by simp)).trans x2
    have p0 : 0 < xs.length := by omega
    have p1 : 1 < xs.length := by omega
    have p2 : 2 < xs.length := by omega
    have q1 : (1 : Int) < (xs.length : Int) := by omega
    have q2 : (2 : Int) < (xs.length : Int) := by omega
    clear hsh hx hxs hc2 x0 x1 x2
    go_wp2_with fail
    refine wp_region_ordG [(0, 1), (1, 1), (2, 1), (3, 1), (4, 1), (5, 1), (6, 1), (7, 1), (8, 1), (9, 1), (10, 0), (11, 0)] [10, 11] (none) (by kernel_rfl) (by kernel_rfl) ?_
    (repeat ((first | with_reducible refine wpOrdG_soft (fun K hK => ?_) | with_reducible refine wpOrdG_pre (fun K hK => ?_)); simp only [List.getElem?_toArray, List.getElem?_cons_zero, List.getElem?_cons_succ]; first | (go_simp; refine hK _ ?_) | (simp only [undef]; go_simp; refine hK _ ?_); clear hK K))
    (with_reducible refine wpOrdG_hard ?_; simp only [List.getElem?_toArray, List.getElem?_cons_zero, List.getElem?_cons_succ])
    go_wp2_with fail
    refine And.intro (World.grownBy_alloc _ _ _) ?_
    (repeat ((first | with_reducible refine wpOrdG_soft (fun K hK => ?_) | with_reducible refine wpOrdG_pre (fun K hK => ?_)); simp only [List.getElem?_toArray, List.getElem?_cons_zero, List.getElem?_cons_succ]; first | (go_simp; refine hK _ ?_) | (simp only [undef]; go_simp; refine hK _ ?_); clear hK K))
    (with_reducible refine wpOrdG_hard ?_; simp only [List.getElem?_toArray, List.getElem?_cons_zero, List.getElem?_cons_succ])
    go_wp2_with fail
    refine And.intro (World.grownBy_alloc _ _ _) ?_
    (repeat ((first | with_reducible refine wpOrdG_soft (fun K hK => ?_) | with_reducible refine wpOrdG_pre (fun K hK => ?_)); simp only [List.getElem?_toArray, List.getElem?_cons_zero, List.getElem?_cons_succ]; first | (go_simp; refine hK _ ?_) | (simp only [undef]; go_simp; refine hK _ ?_); clear hK K))
    (with_reducible refine wpOrdG_nil ?_); refine NoPanic.normal ?_
    have BQ := Lib.hid (Box.alloc w1 [.int .i64 xs[0], .slice none 0 0, .int .i64 xs[1], .int .i64 xs[2]] 29 w1.heap.size rfl)
    clear n0 n1 n2
    go_wp2_with fail
    go_loopw [7] (fun i wr => ∃ (j p : Nat) (a' : Option Addr) (c' : Nat), p = 3 + 2 * j ∧ p ≤ xs.length ∧ i = .int .i64 (p : Int) ∧ Box wr w1.heap.size [.int .i64 xs[0], .slice a' j c', .int .i64 xs[1], .int .i64 xs[2]] ∧ wr.ownsRow (w1.heap.size + 1) 54 2 (.slice a' j c') j (((actOf xs).levs.take j).flatMap Lev.cells) ∧ Below w1.heap.size w1 wr) (fun i _ => xs.length - (intOf i).toNat)
    case atStart => exact ⟨0, 3, none, 0, rfl, h3, by go_num, ⟨BQ.out.lt, BQ.out.at', BQ.out.fr⟩, by simpa using owns_nil _ 54 2 _, Below.drew (belowA _ _)⟩
    case round =>
      obtain ⟨j, p, a', c', hp, hpl, rfl, hq, ho, hb⟩ := hrel
      have FQ := Lib.hid hq; have HO := Lib.hid ho; have HB := Lib.hid hb
      have hlq := hq.lt
      have c0 := hq.at' 1 _ rfl
      have g0 := hq.fr 1
      have HP := Lib.hid hp
      have hj := (show j ≤ 31 by omega)
      clear BQ hq ho
      by_cases hlt : p < xs.length
      · obtain ⟨h2, hjl, hst⟩ := lev_step HSH.out (j := j) (by omega)
        have h2' : p + 1 < xs.length := by omega
        obtain ⟨r, hr⟩ : ∃ r, r = p + 1 := ⟨_, rfl⟩
        have hrl : r < xs.length := by omega
        have HST := Lib.hid (show (actOf xs).levs.take (j + 1) = (actOf xs).levs.take j ++ [⟨xs[p], xs[r]⟩] by subst hr; subst hp; exact hst)
        have e1 := cellB hb (HX.out p hlt)
        have e2 := cellB hb (HX.out r hrl)
        have wr1 : IntKind.i64.wrap ((p : Int) + 1) = (r : Int) := by rw [IntWalk.i64_in _ (by omega)]; omega
        have q5 : (r : Int) < (xs.length : Int) := by omega
        have HRE := Lib.hid hr
        have hbr : b < wr.heap.size := by have := hb.size; omega
        have n1 : ∀ y, (extT wr.drew w1.heap.size wr.heap.size y).cell? ⟨b, o + p, none⟩ = some (.int .i64 xs[p]) := fun y => (cell?_extT_lo (w := wr.drew) (by simpa using hbr) hb1).trans e1
        have n2 : ∀ y, (extT wr.drew w1.heap.size wr.heap.size y).cell? ⟨b, o + r, none⟩ = some (.int .i64 xs[r]) := fun y => (cell?_extT_lo (w := wr.drew) (by simpa using hbr) hb1).trans e2
        have n0 : ∀ y, (ext wr.drew none y).cell? ⟨w1.heap.size, 1, none⟩ = some (.slice a' j c') := fun y => (cell?_ext (w := wr.drew) (by simpa using hlq) (by simp)).trans c0
        have q4 : (p : Int) < (xs.length : Int) := by omega
        clear hst h2 h2' hb e1 e2 hp hr
        go_wp2_with fail
        refine wp_region_ord3 [(0, 1), (1, 3), (2, 1), (3, 1), (4, 1), (5, 1), (6, 1), (7, 1), (8, 1), (9, 1), (10, 1), (11, 1), (12, 4), (13, 0), (14, 1), (15, 0)] [12, 13, 15] [13, 15] (w1.heap.size) (wr.heap.size) (by kernel_rfl) (by kernel_rfl) ?_
        (repeat ((first | with_reducible refine wpOrd3_soft (fun K hK => ?_) | with_reducible refine wpOrd3_pre (fun K hK => ?_) | with_reducible refine wpOrd3_late (fun K hK => ?_)); simp only [List.getElem?_toArray, List.getElem?_cons_zero, List.getElem?_cons_succ]; first | (go_simp; refine hK _ ?_) | (simp only [undef]; go_simp; refine hK _ ?_); clear hK K))
        ((first | with_reducible refine wpOrd3_hard ?_ | with_reducible refine wpOrd3_new ?_); simp only [List.getElem?_toArray, List.getElem?_cons_zero, List.getElem?_cons_succ])
        go_wp2_with fail
        refine And.intro (World.grownBy_alloc _ _ _) ?_
        (repeat ((first | with_reducible refine wpOrd3_soft (fun K hK => ?_) | with_reducible refine wpOrd3_pre (fun K hK => ?_) | with_reducible refine wpOrd3_late (fun K hK => ?_)); simp only [List.getElem?_toArray, List.getElem?_cons_zero, List.getElem?_cons_succ]; first | (go_simp; refine hK _ ?_) | (simp only [undef]; go_simp; refine hK _ ?_); clear hK K))
        ((first | with_reducible refine wpOrd3_hard ?_ | with_reducible refine wpOrd3_new ?_); simp only [List.getElem?_toArray, List.getElem?_cons_zero, List.getElem?_cons_succ])
        refine append_one_atD rfl _ _ 27 rfl (w1.heap.size + 1) 54 _ 2 16 Tryd.underlying27 info_Lever rfl (by decide) _ j _ rfl HO.out [.int .i64 xs[p], .int .i64 xs[r]] rfl (by simp [Value.oneCell']) wr.heap.size rfl rfl (by omega) (by decide) (by omega) ?_
        intro a5 cap5 w5 ho5 hg5 hb5
        have hst : Below (w1.heap.size + 1) wr w5 := Below.trans ((Below.refl _ wr).drew) hb5
        have HT5 := Lib.hid (Touch.of_grown (B := w1.heap.size) (E := wr.heap.size) hg5 (fun q hq => by have := HO.out.lt q hq; omega))
        have bq := FQ.out.step hst (by omega)
        have c5 := bq.at' 1 _ rfl
        have g5 := bq.fr 1
        have l5 := bq.lt
        have GQ := Lib.hid (bq.set (j := 1) (.slice a5 (j + 1) cap5) (by simp))
        have GO := Lib.hid (ownsRow_setCell_below (a := ⟨w1.heap.size, 1, none⟩) ho5 (by simp) (.slice a5 (j + 1) cap5))
        have hz5 := hst.size
        have GB := Lib.hid (((Touch.refl w1.heap.size (w1.heap.size + 1) w5).setCell (p := ⟨w1.heap.size, 1, none⟩) (by simp) (.slice a5 (j + 1) cap5)).below (HB.out.trans (hst.mono (by omega))) (Nat.le_refl _) (by omega))
        clear ho5 hg5 hb5 hst bq n0 n1 n2 c0 g0 FQ HO HB
        go_wp2_with fail
        refine And.intro HT5.out ?_
        (repeat ((first | with_reducible refine wpOrd3_soft (fun K hK => ?_) | with_reducible refine wpOrd3_pre (fun K hK => ?_) | with_reducible refine wpOrd3_late (fun K hK => ?_)); simp only [List.getElem?_toArray, List.getElem?_cons_zero, List.getElem?_cons_succ]; first | (go_simp; refine hK _ ?_) | (simp only [undef]; go_simp; refine hK _ ?_); clear hK K))
        ((first | with_reducible refine wpOrd3_hard ?_ | with_reducible refine wpOrd3_new ?_); simp only [List.getElem?_toArray, List.getElem?_cons_zero, List.getElem?_cons_succ])
        go_wp2_with fail
        refine And.intro (HT5.out.setCell (by simp; omega) _) ?_
        (with_reducible refine wpOrd3_nil ?_); refine NoPanic.normal ?_
        go_wp2
        go_roundw
        case rel => exact ⟨j + 1, p + 2, a5, cap5, by have := HP.out; omega, by have := HRE.out; have := HSH.out.2; have := HP.out; omega, by go_num, GQ.out, by rw [HST.out, List.flatMap_append]; exact GO.out, GB.out⟩
        case measure => simp [intOf] <;> omega
      · obtain rfl : p = xs.length := by omega
        have hj2 : j = (actOf xs).levs.length := by have := (actOf_list HSH.out).2; have := HP.out; omega
        subst hj2
        have HLV := Lib.hid (show OwnRow (w1.heap.size + 1) wr.heap.size wr 54 2 (.slice a' (actOf xs).levs.length c') (actOf xs).levs.length ((actOf xs).levs.flatMap Lev.cells) by
          have := HO.out
          rw [List.take_length] at this
          exact OwnRow.mk' this)
        have k0 : (actOf xs).note = xs[0] := by show xs.getD 0 0 = xs[0]; simp [p0]
        have k1 : (actOf xs).slack = xs[1] := by show xs.getD 1 0 = xs[1]; simp [p1]
        have k2 : (actOf xs).weight = xs[2] := by show xs.getD 2 0 = xs[2]; simp [p2]
        have FQ := Lib.hid (show Box wr w1.heap.size [.int .i64 (actOf xs).note, .slice a' (actOf xs).levs.length c', .int .i64 (actOf xs).slack, .int .i64 (actOf xs).weight] by rw [k0, k1, k2]; exact FQ.out)
        have B0 := Lib.hid (B0.out.mono (hb.mono (Nat.le_refl _)))
        have HBW := Lib.hid (HB1.out.trans (hb.mono (by omega)))
        obtain ⟨x, hxe⟩ : ∃ x, x = actOf xs := ⟨_, rfl⟩
        rw [← hxe] at FQ HLV
        have HXE := Lib.hid hxe
        have u0 := FQ.out.at' 0 _ rfl
        have u1 := FQ.out.at' 1 _ rfl
        have u2 := FQ.out.at' 2 _ rfl
        have u3 := FQ.out.at' 3 _ rfl
        clear k0 k1 k2 HO HB hb hxe c0 g0 q1 q2
        go_wp2_with fail
        refine (implValidAct_any _ (.slice a' x.levs.length c') x _ ⟨rfl, Levs.of_owns HLV.out.1⟩).mono ?_
        cases hval : validActB x
        · have HR := Lib.hid (rd_no (s := s) (fun h => by
            have h3 := h.2.2
            rw [← HXS.out, ← HXE.out] at h3
            have : validActB x = true := by simpa [validActB] using h3
            rw [hval] at this; cases this))
          rintro e w2 ⟨rfl, hb2⟩
          have B0 := Lib.hid (B0.out.mono hb2)
          have HBW := Lib.hid (HBW.out.trans (hb2.mono HBW.out.size))
          clear hval u0 u1 u2 u3 hb2
          have r0 := B0.out.at' 0 _ rfl
          have r1 := B0.out.at' 1 _ rfl
          have r2 := B0.out.at' 2 _ rfl
          have r3 := B0.out.at' 3 _ rfl
          have f0 := B0.out.fr 0
          have f1 := B0.out.fr 1
          have f2 := B0.out.fr 2
          have f3 := B0.out.fr 3
          have l0 := B0.out.lt
          go_wp2
          refine bodyPost_ret (v := .tuple #[.agg #[.int .i64 0, .slice none 0 0, .int .i64 0, .int .i64 0], .bool false]) (by simp [results, Tryd.results12, go_sem, r0, r1, r2, r3, f0, f1, f2, f3, l0]) rfl ⟨_, by rw [HR.out.1], by rw [HR.out.2]; exact own_zeroR _ _ _, ?_⟩
          have hbw := HBW.out
          (repeat (first | with_reducible exact Below.refl _ _ | with_reducible exact hbw | (with_reducible refine Below.setCell ?_ ?_ _; rotate_left; · first | exact Nat.le_refl _ | omega | (simp; done) | (simp; omega)) | (with_reducible refine Below.alloc ?_ ?_ _; rotate_left; · first | exact Nat.le_refl _ | omega | (simp; done) | (simp; omega)) | with_reducible refine below_drewN ?_ _ | with_reducible refine Below.drew ?_))
        · have HR := Lib.hid (rd_yes (s := s) hok (by rw [← HXS.out]; exact HSH.out) (by rw [← HXS.out, ← HXE.out]; simpa [validActB] using hval))
          have HOK := Lib.hid (show x.ok by have := rdV_nums s; rw [HR.out.2, ← HXS.out, ← HXE.out] at this; exact this)
          have HLE := Lib.hid (show x.levs.length ≤ 1048576 by have := rdV_len s; rw [HR.out.2, ← HXS.out, ← HXE.out] at this; omega)
          have HAG := Lib.hid (show actT x = s by rw [HXE.out, HXS.out]; exact act_again hok (by rw [← HXS.out]; exact HSH.out) (by rw [← HXS.out, ← HXE.out]; simpa [validActB] using hval))
          rintro e w2 ⟨rfl, hb2⟩
          have hz2 := hb2.size
          have B0 := Lib.hid (B0.out.mono hb2)
          have HBW := Lib.hid (HBW.out.trans (hb2.mono HBW.out.size))
          have HLV := Lib.hid (HLV.out.mono hb2)
          have u0 := cellB hb2 u0
          have u1 := cellB hb2 u1
          have u2 := cellB hb2 u2
          have u3 := cellB hb2 u3
          have hlq2 : w1.heap.size < w2.heap.size := by omega
          clear hval hb2
          go_wp2_with fail
          refine (implActionText_any _ x _ ⟨.slice a' x.levs.length c', rfl, Levs.of_owns HLV.out.1⟩ HOK.out HLE.out (HLY.out.mono HBW.out).tab).mono ?_
          rw [HAG.out]
          rintro e w3 ⟨rfl, hb3⟩
          have hz3 := hb3.size
          have B0 := Lib.hid (B0.out.mono hb3)
          have HBW := Lib.hid (HBW.out.trans (hb3.mono HBW.out.size))
          have HLV := Lib.hid (HLV.out.mono hb3)
          have u0 := cellB hb3 u0
          have u1 := cellB hb3 u1
          have u2 := cellB hb3 u2
          have u3 := cellB hb3 u3
          clear hb3
          have r0 := B0.out.at' 0 _ rfl
          have r1 := B0.out.at' 1 _ rfl
          have r2 := B0.out.at' 2 _ rfl
          have r3 := B0.out.at' 3 _ rfl
          have f0 := B0.out.fr 0
          have f1 := B0.out.fr 1
          have f2 := B0.out.fr 2
          have f3 := B0.out.fr 3
          have l0 := B0.out.lt
          go_wp2
          refine bodyPost_ret (v := .tuple #[.agg #[.int .i64 x.note, .slice a' x.levs.length c', .int .i64 x.slack, .int .i64 x.weight], .bool true]) (by simp [results, Tryd.results12, go_sem, r0, r1, r2, r3, f0, f1, f2, f3, l0]) rfl ⟨_, by rw [HR.out.1], ?_, ?_⟩
          · rw [HR.out.2, ← HXS.out, ← HXE.out]
            refine ⟨_, rfl, ?_⟩
            refine (HLV.out.touch (B' := w.heap.size) (E' := w.heap.size + 1) ?_ (Or.inr (by omega))).wide (by omega) (by first | (simp; done) | (simp; omega))
            have htc := Touch.refl w.heap.size (w.heap.size + 1) w3
            (repeat (first | with_reducible exact Touch.refl _ _ _ | with_reducible exact htc | (with_reducible refine Touch.setCell ?_ ?_ _; rotate_left; · (simp only; omega)) | (with_reducible refine Touch.setNew ?_ ?_ _; rotate_left; · (first | (simp only; omega) | (simp; done) | (simp; omega))) | with_reducible refine Touch.alloc ?_ _ | with_reducible refine Touch.drewN ?_ _ | with_reducible refine Touch.drew ?_))
          · have hbw := HBW.out
            (repeat (first | with_reducible exact Below.refl _ _ | with_reducible exact hbw | (with_reducible refine Below.setCell ?_ ?_ _; rotate_left; · first | exact Nat.le_refl _ | omega | (simp; done) | (simp; omega)) | (with_reducible refine Below.alloc ?_ ?_ _; rotate_left; · first | exact Nat.le_refl _ | omega | (simp; done) | (simp; omega)) | with_reducible refine below_drewN ?_ _ | with_reducible refine Below.drew ?_))
  · have HR := Lib.hid (rd_no (s := s) (fun h => hsh h.2.1))
    by_cases h3 : (rlV s).length < 3
    · have d1 : decide (((rlV s).length : Int) < 3) = true := by simp; omega
      clear hsh hc1 hc2
      have r0 := B0.out.at' 0 _ rfl
      have r1 := B0.out.at' 1 _ rfl
      have r2 := B0.out.at' 2 _ rfl
      have r3 := B0.out.at' 3 _ rfl
      have f0 := B0.out.fr 0
      have f1 := B0.out.fr 1
      have f2 := B0.out.fr 2
      have f3 := B0.out.fr 3
      have l0 := B0.out.lt
      go_wp2
      refine bodyPost_ret (v := .tuple #[.agg #[.int .i64 0, .slice none 0 0, .int .i64 0, .int .i64 0], .bool false]) (by simp [results, Tryd.results12, go_sem, r0, r1, r2, r3, f0, f1, f2, f3, l0]) rfl ⟨_, by rw [HR.out.1], by rw [HR.out.2]; exact own_zeroR _ _ _, ?_⟩
      have hbw := HB1.out
      (repeat (first | with_reducible exact Below.refl _ _ | with_reducible exact hbw | (with_reducible refine Below.setCell ?_ ?_ _; rotate_left; · first | exact Nat.le_refl _ | omega | (simp; done) | (simp; omega)) | (with_reducible refine Below.alloc ?_ ?_ _; rotate_left; · first | exact Nat.le_refl _ | omega | (simp; done) | (simp; omega)) | with_reducible refine below_drewN ?_ _ | with_reducible refine Below.drew ?_))
    · have d1 : decide (((rlV s).length : Int) < 3) = false := by simp; omega
      have d2 : decide ((rlV s).length < 3) = false := by simp; omega
      have t0 : ((rlV s).length : Int).tmod 2 = 0 := by rw [Int.tmod_eq_emod_of_nonneg (by omega)]; unfold shapeOk at hsh; omega
      clear hsh hc1 hc2
      have r0 := B0.out.at' 0 _ rfl
      have r1 := B0.out.at' 1 _ rfl
      have r2 := B0.out.at' 2 _ rfl
      have r3 := B0.out.at' 3 _ rfl
      have f0 := B0.out.fr 0
      have f1 := B0.out.fr 1
      have f2 := B0.out.fr 2
      have f3 := B0.out.fr 3
      have l0 := B0.out.lt
      go_wp2
      refine bodyPost_ret (v := .tuple #[.agg #[.int .i64 0, .slice none 0 0, .int .i64 0, .int .i64 0], .bool false]) (by simp [results, Tryd.results12, go_sem, r0, r1, r2, r3, f0, f1, f2, f3, l0]) rfl ⟨_, by rw [HR.out.1], by rw [HR.out.2]; exact own_zeroR _ _ _, ?_⟩
      have hbw := HB1.out
      (repeat (first | with_reducible exact Below.refl _ _ | with_reducible exact hbw | (with_reducible refine Below.setCell ?_ ?_ _; rotate_left; · first | exact Nat.le_refl _ | omega | (simp; done) | (simp; omega)) | (with_reducible refine Below.alloc ?_ ?_ _; rotate_left; · first | exact Nat.le_refl _ | omega | (simp; done) | (simp; omega)) | with_reducible refine below_drewN ?_ _ | with_reducible refine Below.drew ?_))

end Go.Proofs.YtijhlllajddlpaaDoor
