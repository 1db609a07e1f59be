/- The laws' marks over rows of texts. Contracts of markText, eqStringS, markStringS, heldStringS. -/
import Derived.Test.YtgdfecnpkjnhnaaDoorRegion
import Derived.Test.YtgdfecnpkjnhnaaDoorInfo
import Derived.Test.YtgdfecnpkjnhnaaDoorSplitS
import Derived.Test.YtgdfecnpkjnhnaaDoorStrEq
import Derived.Deep.QuietTactic
import Derived.BigQuiet
set_option linter.unusedSimpArgs false
set_option linter.unnecessarySimpa false
set_option linter.unusedVariables false
set_option maxRecDepth 100000
namespace Go.Proofs.YtgdfecnpkjnhnaaDoor
open Go.RowKit

/-- The digits of a mark, before others. -/
def mkF : Nat → Nat → ByteArray → ByteArray
  | 0, _, o => o
  | f + 1, m, o => if m = 0 then o else mkF f (m / 10) ((⟨#[UInt8.ofNat (48 + m % 10)]⟩ : ByteArray) ++ o)
theorem mkF_zero (f : Nat) (o : ByteArray) : mkF f 0 o = o := by cases f <;> simp [mkF]
theorem mkF_step {f m : Nat} (h : 0 < m) (o : ByteArray) : mkF (f + 1) m o = mkF f (m / 10) ((⟨#[UInt8.ofNat (48 + m % 10)]⟩ : ByteArray) ++ o) := by simp only [mkF]; rw [if_neg (by omega)]
/-- The text of the mark k. -/
def mkT (k : Nat) : ByteArray := (⟨#[109]⟩ : ByteArray) ++ mkF k k ⟨#[]⟩

set_option maxHeartbeats 1000000 in
theorem markText_any (k : Nat) (w : World) (h : 1 ≤ k) (h2 : k ≤ 1000000000) :
    Calls Tryd.prog 32 #[.int .i64 (k : Int)] w fun e w' => e = .returned (.string (mkT k)) ∧ Below w.heap.size w w' := by
  have d0 : decide ((k : Int) ≤ 0) = false := by simpa using (show ¬ k = 0 by omega)
  go_enter Tryd.func32, Tryd.ntmps32
  go_wp2_with fail
  go_loopw [0, 3] (fun kv o wr => ∃ (f m : Nat) (b : ByteArray), kv = .int .i64 (m : Int) ∧ o = .string b ∧ m ≤ f ∧ m ≤ k ∧ b.size + f ≤ k ∧ mkF f m b = mkF k k ⟨#[]⟩ ∧ Below w.heap.size w wr) (fun kv _ _ => (intOf kv).toNat)
  case atStart => exact ⟨k, k, ⟨#[]⟩, rfl, rfl, Nat.le_refl _, Nat.le_refl _, by show 0 + k ≤ k; omega, rfl, Below.refl _ _⟩
  case round =>
    obtain ⟨f, m, b, rfl, rfl, hf, hk, hs, hm, hb⟩ := hrel
    have HM := Lib.hid hm; have HB := Lib.hid hb
    clear hm hb
    by_cases hp : 0 < m
    · obtain ⟨f', rfl⟩ : ∃ f', f = f' + 1 := ⟨f - 1, by omega⟩
      have HM1 := Lib.hid ((mkF_step hp b).symm.trans HM.out)
      have hu : ((UInt8.ofNat (48 + m % 10)).toNat : Int) = 48 + (m : Int) % 10 := by
        rw [UInt8.toNat_ofNat']
        omega
      obtain ⟨c, hc⟩ : ∃ c : UInt8, UInt8.ofNat (48 + m % 10) = c := ⟨_, rfl⟩
      rw [hc] at hu HM1
      clear hc
      have hconv := run_convert_bytes_back (P := Tryd.prog) (wr.alloc (.cells #[.int .u8 (48 + (m : Int) % 10)] 5)) 82 9 5 ⟨wr.heap.size, 0, none⟩ 1 [c] Tryd.underlying82 Tryd.underlying5 Tryd.underlying9 (fun i hi => by
        obtain rfl : i = 0 := by simp at hi; exact hi
        rw [Addr.add_lit]
        simp [go_sem, hu]
        )
      simp only [List.length_cons, List.length_nil, Nat.zero_add] at hconv
      clear hu
      have hs1 : ((⟨#[c]⟩ : ByteArray) ++ b).size = 1 + b.size := ByteArray.size_append
      have HC := Lib.hid (belowA wr (.cells #[.int .u8 (48 + (m : Int) % 10)] 5))
      have hzr := HB.out.size
      go_wp2
      go_roundw
      case rel => exact ⟨f', m / 10, _, by go_num, rfl, by omega, by omega, by rw [hs1]; omega, HM1.out, HB.out.trans (HC.out.mono hzr)⟩
      case measure => simp [intOf] <;> omega
    · obtain rfl : m = 0 := by omega
      have HR := Lib.hid (show (⟨#[109]⟩ : ByteArray) ++ b = mkT k by unfold mkT; rw [← HM.out, mkF_zero])
      go_wp2
      go_ret
      exact ⟨by rw [← HR.out]; rfl, HB.out⟩

def strMk (k n : Nat) : List Value := (List.range n).map fun i => .string (mkT (k + i))
theorem strMk_len (k n : Nat) : (strMk k n).length = n := by simp [strMk]
theorem strMk_get (k n i : Nat) (h : i < n) : (strMk k n)[i]? = some (.string (mkT (k + i))) := by simp [strMk, h]
theorem strMk_succ (k n : Nat) : strMk k (n + 1) = strMk k n ++ [.string (mkT (k + n))] := by simp [strMk, List.range_succ]
theorem strMk_at (k n : Nat) (cs : List Value) (j : Nat) (h : n + j < cs.length) : (strMk k n ++ cs.drop n)[n + j]? = some (cs.getD (n + j) .nilFunc) := by
  rw [List.getElem?_append_right (by rw [strMk_len]; omega), strMk_len, List.getElem?_drop]
  rw [List.getD_eq_getElem?_getD, show n + (n + j - n) = n + j by omega, List.getElem?_eq_getElem h]; rfl
theorem strMk_set (k n : Nat) (cs : List Value) (h : n < cs.length) : (strMk k n ++ cs.drop n).set n (.string (mkT (k + n))) = strMk k (n + 1) ++ cs.drop (n + 1) := by
  rw [List.drop_eq_getElem_cons h, strMk_succ, List.append_assoc]
  exact set_at' (strMk_len k n)

set_option maxHeartbeats 1000000 in
theorem markStrs_any (v : Value) (n base : Nat) (te : TypeId) (cs : List Value) (k : Nat) (w : World) (ho : w.ownsRow base te 1 v n cs) (hk1 : 1 ≤ k) (hk : k + 1 * n ≤ 1000000000) :
    Calls Tryd.prog 10 #[v, .int .i64 k] w fun e w' => e = .returned (.int .i64 ↑(k + n * 1)) ∧ w'.ownsRow base te 1 v n (strMk k (n * 1)) ∧ w.grownBy w' v.ownBlock := by
  rcases id ho with ⟨hl, ⟨rfl, rfl⟩ | ⟨g, cap, cur, rfl, hbase, hg, hn, hc, hs, ht⟩⟩
  · have hcs : cs = [] := by simpa using hl
    subst hcs
    go_enter Tryd.func10, Tryd.ntmps10
    go_wp2
    refine wp_loop_rounds 1 ?_
    rw [rounds_succ]
    go_wp2
    go_ret
    exact ⟨by simp, by simpa [strMk] using ho, World.grownBy.refl _ _⟩
  · clear hg ht hs
    unfold maxLen at hc
    have HL := Lib.hid hl; clear hl
    go_enter Tryd.func10, Tryd.ntmps10
    go_wp2
    go_loopw [1, 5] (fun q i wr => ∃ t : Nat, t ≤ n ∧ i = .int .i64 t ∧ q = .int .i64 ↑(k + t) ∧ wr.ownsRow base te 1 (.slice (some ⟨g, 0, none⟩) n cap) n (strMk k t ++ cs.drop t) ∧ w.grownBy wr (some g)) (fun _ i _ => n - (intOf i).toNat)
    case atStart => exact ⟨0, Nat.zero_le _, rfl, by simp, by simpa [strMk] using ho, World.grownBy.refl _ _⟩
    case round =>
      obtain ⟨t, ht, rfl, rfl, hw, hg⟩ := hrel
      by_cases hlt : t < n
      · have HW := Lib.hid hw
        have HG := Lib.hid hg
        clear hw hg
        go_wp2_with fail
        refine (markText_any (k + t) _ (by omega) (by omega)).mono ?_
        rintro e w1 ⟨rfl, hb1⟩
        have hw := owns_mono HW.out hb1
        have hlen := HL.out
        have x0 : (strMk k t ++ cs.drop t)[t]? = some (cs.getD t .nilFunc) := strMk_at _ _ _ 0 (by rw [hlen]; omega)
        have d0 : w1.cell? ⟨g, t, none⟩ = some (cs.getD t .nilFunc) := by rw [hw.cellAt _ (by omega)]; exact x0
        have f0 := hw.frozenAt t
        have HW := Lib.hid hw
        have HG := Lib.hid (grown_trans HG.out (show wr.grownBy w1 (some g) from ⟨hb1.os, hb1.tape, hb1.output, hb1.size, fun k hk _ => hb1.block k hk⟩))
        clear hw hlen x0 hb1
        go_wp2
        have hlen := HL.out
        have q1 := (HW.out).stored t (.string (mkT (k + t)))
        rw [strMk_set k t cs (by rw [hlen]; omega)] at q1
        exact ⟨⟨t + 1, by omega, by go_num, by go_num, q1.1, grown_trans HG.out q1.2⟩, by simp [intOf]; omega⟩
      · go_wp2
        go_ret
        obtain rfl : t = n := by omega
        exact ⟨by simp, by have := hw; rw [List.drop_of_length_le (by rw [HL.out]; omega), List.append_nil] at this; simpa using this, hg⟩

set_option maxHeartbeats 1000000 in
theorem heldStrs_any (v : Value) (n k : Nat) (w : World) (h : Sl w v n (strMk k (n * 1))) (hk1 : 1 ≤ k) (hk : k + 1 * n ≤ 1000000000) :
    Calls Tryd.prog 11 #[v, .int .i64 k] w fun e w' => e = .returned (.int .i64 ↑(k + n * 1)) ∧ Below w.heap.size w w' := by
  obtain ⟨a, cap, rfl, hn, hc, _⟩ := id h
  have hm : n ≤ 1000000000 := by omega
  clear hn hc
  go_enter Tryd.func11, Tryd.ntmps11
  go_wp2
  go_loopw [1, 5] (fun q i wr => ∃ t : Nat, t ≤ n ∧ i = .int .i64 t ∧ q = .int .i64 ↑(k + t) ∧ Below w.heap.size w wr) (fun _ i _ => n - (intOf i).toNat)
  case atStart => exact ⟨0, Nat.zero_le _, rfl, by simp, Below.refl _ _⟩
  case round =>
    obtain ⟨t, ht, rfl, rfl, hb⟩ := hrel
    by_cases hlt : t < n
    · obtain ⟨b, off, rfl, c⟩ := (h.mono hb).cells (by rw [strMk_len]; omega)
      have c0 : wr.cell? ⟨b, off + t, none⟩ = some (.string (mkT (k + t))) := c t _ (strMk_get k _ _ (by omega))
      have hbl := World.block_lt_of_cell? _ _ c0
      simp only at hbl
      have HB := Lib.hid hb
      have hz := hb.size
      clear c hb
      go_wp2_with fail
      refine wp_region_ord [(0, true), (1, true), (2, true), (3, true), (4, true), (5, false), (6, true)] (none) (by kernel_rfl) (by kernel_rfl) ?_
      (repeat (with_reducible refine wpOrd_soft (fun K hK => ?_); simp only [List.getElem?_toArray, List.getElem?_cons_zero, List.getElem?_cons_succ]; first | (go_simp; refine hK _ ?_) | (simp only [undef]; go_simp; refine hK _ ?_); clear hK K))
      (with_reducible refine wpOrd_hard ?_; simp only [List.getElem?_toArray, List.getElem?_cons_zero, List.getElem?_cons_succ])
      go_wp2_with fail
      refine (markText_any (k + t) _ (by omega) (by omega)).mono ?_
      rintro e w1 ⟨rfl, hb1⟩
      have st := undrew hb1
      have HB1 := Lib.hid (HB.out.trans (st.mono hz))
      go_wp2_with fail
      refine ⟨grown_of_below st, ?_⟩
      (repeat (with_reducible refine wpOrd_soft (fun K hK => ?_); simp only [List.getElem?_toArray, List.getElem?_cons_zero, List.getElem?_cons_succ]; first | (go_simp; refine hK _ ?_) | (simp only [undef]; go_simp; refine hK _ ?_); clear hK K))
      (with_reducible refine wpOrd_nil ?_); refine NoPanic.normal ?_
      clear st hb1
      go_wp2
      go_roundw
      case rel => exact ⟨t + 1, by omega, by go_num, by go_num, HB1.out⟩
      case measure => simp [intOf] <;> omega
    · go_wp2
      go_ret
      obtain rfl : t = n := by omega
      exact ⟨by simp, hb⟩

set_option maxHeartbeats 400000 in
theorem eqStrs_any (v1 v2 : Value) (xs : List (List UInt8)) (w : World) (h1 : Sl w v1 xs.length (xs.map fun p => Value.string (bytesB p))) (h2 : Sl w v2 xs.length (xs.map fun p => Value.string (bytesB p))) :
    Calls Tryd.prog 9 #[v1, v2] w fun e w' => e = .returned (.bool true) ∧ Q w w' := by
  obtain ⟨a, ca, rfl, hca, hcm, _⟩ := id h1
  obtain ⟨b, cb, rfl, _, _, _⟩ := id h2
  have hm : xs.length ≤ maxLen := by omega
  clear hca hcm
  unfold maxLen at hm
  go_enter Tryd.func9, Tryd.ntmps9
  go_wp2
  go_loopw [5] (fun i wr => ∃ k : Nat, k ≤ xs.length ∧ i = .int .i64 k ∧ Q w wr) (fun i _ => xs.length - (intOf i).toNat)
  case atStart => exact ⟨0, Nat.zero_le _, rfl, Q.refl _⟩
  case round =>
    obtain ⟨k, hk, rfl, hq⟩ := hrel
    by_cases hlt : k < xs.length
    · obtain ⟨b1, o1, rfl, c1⟩ := (h1.mono (hq.below _)).cells (by simp; omega)
      obtain ⟨b2, o2, rfl, c2⟩ := (h2.mono (hq.below _)).cells (by simp; omega)
      have d1 : wr.cell? ⟨b1, o1 + k, none⟩ = some (.string (bytesB xs[k])) := c1 k _ (by simp [hlt])
      have d2 : wr.cell? ⟨b2, o2 + k, none⟩ = some (.string (bytesB xs[k])) := c2 k _ (by simp [hlt])
      clear c1 c2
      go_wp2
      go_quiet (fail)
      go_wp2
      go_roundw
      case rel => exact ⟨k + 1, by omega, by go_num, hq.drewN _⟩
      case measure => simp [intOf]; omega
    · go_wp2
      go_ret
      exact ⟨rfl, hq⟩

end Go.Proofs.YtgdfecnpkjnhnaaDoor
