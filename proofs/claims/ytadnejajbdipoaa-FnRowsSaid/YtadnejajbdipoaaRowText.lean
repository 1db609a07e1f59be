/- Contracts of RowText of both packages. -/
import Derived.Test.YtadnejajbdipoaaBuild
import Derived.Test.YtadnejajbdipoaaReadRow
set_option linter.unusedSimpArgs false
set_option linter.unnecessarySimpa false
set_option linter.unusedVariables false
set_option maxRecDepth 100000
namespace Go.Proofs.Ytadnejajbdipoaa
open Go.RowKit

/-- The sign of a bell, as a byte. -/
def sgnB (x : Int) : UInt8 := [0, 49, 50, 51, 52, 53, 54, 55, 56, 57, 48, 69, 84].getD x.toNat 0
theorem sgnB_sgn : ∀ k : Fin 13, (sgnB (k.val : Int)).toNat = (sgn k.val).toNat ∧ 0 ≤ sgn k.val := by decide
theorem sgn_byte {k : Nat} (h : k ≤ 12) : sgn k = ((sgnB (k : Int)).toNat : Int) := by
  have := sgnB_sgn ⟨k, by omega⟩
  simp only at this
  rw [this.1]; omega
def textL (xs : List Int) : List UInt8 := xs.map sgnB
noncomputable def rtV (xs : List Int) : ByteArray := if RowOk xs then ⟨(textL xs).toArray⟩ else ⟨#[]⟩
theorem rt_yes {xs : List Int} (h : RowOk xs) : rtV xs = ⟨(textL xs).toArray⟩ := if_pos h
theorem rt_no {xs : List Int} (h : ¬ RowOk xs) : rtV xs = ⟨#[]⟩ := if_neg h
theorem byteCells_map (xs : List Int) : Lib.byteCells (textL xs) = (textL xs).map fun b => Value.int .u8 b.toNat := by first | rfl | simp [Lib.byteCells]
theorem textL_len (xs : List Int) : (textL xs).length = xs.length := by simp [textL]
theorem cells_step (xs : List Int) {k : Nat} (h : k < xs.length) : Lib.byteCells (textL (xs.take (k + 1))) = Lib.byteCells (textL (xs.take k)) ++ [.int .u8 ((sgnB xs[k]).toNat : Int)] := by
  rw [List.take_succ_eq_append_getElem h]; simp only [textL, Lib.byteCells, List.map_append, List.map_cons, List.map_nil]

set_option maxHeartbeats 1000000 in
theorem l27Text_any (v : Value) (xs : List Int) (w : World) (h : Ints w v xs) (hr : RowOk xs) :
    Calls Try.prog 39 #[v] w fun e w' => e = .returned (.string ⟨(textL xs).toArray⟩) ∧ Below w.heap.size w w' := by
  obtain ⟨a, ca, rfl, _, _, _⟩ := id h
  have hst := hr.stage
  unfold stage at hst
  have HR := Lib.hid hr; clear hr
  go_enter Try.func39, Try.ntmps39
  go_wp2_with fail
  go_loopw [3, 4] (fun o i wr => ∃ (k : Nat) (a' : Option Addr) (c' : Nat), k ≤ xs.length ∧ i = .int .i64 (k : Int) ∧ o = .slice a' k c' ∧ wr.ownsRow w.heap.size 5 1 (.slice a' k c') k (Lib.byteCells (textL (xs.take k))) ∧ Below w.heap.size w wr) (fun _ i _ => xs.length - (intOf i).toNat)
  case atStart => exact ⟨0, some ⟨w.heap.size, 0, none⟩, 0, Nat.zero_le _, by go_num, rfl, by simpa [textL, Lib.byteCells] using owns_empty w 5 1 _ (Nat.le_refl _), by (repeat (first | with_reducible exact Below.refl _ _ | with_reducible exact hbw | (with_reducible refine Below.setCell ?_ ?_ _; rotate_left; · first | exact Nat.le_refl _ | omega | (simp; done) | (simp; omega)) | (with_reducible refine Below.alloc ?_ ?_ _; rotate_left; · first | exact Nat.le_refl _ | omega | (simp; done) | (simp; omega)) | with_reducible refine below_drewN ?_ _ | with_reducible refine Below.drew ?_))⟩
  case round =>
    obtain ⟨k, a', c', hk, rfl, rfl, ho, hb⟩ := hrel
    have HO := Lib.hid ho; clear ho
    have hz := hb.size
    by_cases hlt : k < xs.length
    · obtain ⟨b1, o1, rfl, x1⟩ := (Ints.mono h hb).cells (by simp <;> omega)
      have d1 : wr.cell? ⟨b1, o1 + k, none⟩ = some (.int .i64 xs[k]) := x1 k _ (by simp [hlt])
      have hm := HR.out.mem xs[k] (List.getElem_mem hlt)
      obtain ⟨p, hp⟩ : ∃ p : Nat, xs[k] = (p : Int) := ⟨xs[k].toNat, by omega⟩
      have p1 : 1 ≤ p := by omega
      have p12 : p ≤ 12 := by omega
      have HS := Lib.hid (cells_step xs hlt)
      have HSG := Lib.hid (show ((sgnB xs[k]).toNat : Int) = sgn p by rw [hp, sgn_byte p12])
      rw [hp] at d1
      clear x1 hm
      go_wp2_with fail
      refine (l27Sign_any p _ p1 p12).mono ?_
      rintro e w1 ⟨rfl, rfl⟩
      go_wp2_with (at_builtin; refine append_one rfl _ _ 22 rfl w.heap.size 5 (.int .u8 0) 1 1 Try.underlying22 info_byte rfl (by decide) _ k _ rfl HO.out [.int .u8 (sgn p)] rfl (by simp [Value.oneCell']) rfl (by omega) (by decide) hz ?_)
      intro a5 c5 w5 ho5 _ hb5
      have HO5 := Lib.hid ho5; have HB5 := Lib.hid (hb.trans hb5)
      clear ho5 hb5
      go_wp2
      go_roundw
      case rel => exact ⟨k + 1, a5, c5, by omega, by go_num, rfl, by rw [HS.out, HSG.out]; exact HO5.out, HB5.out⟩
      case measure => simp [intOf] <;> omega
    · obtain rfl : k = xs.length := by omega
      have ho := HO.out
      rw [List.take_length] at ho
      obtain ⟨g, rfl⟩ : ∃ g, a' = some ⟨g, 0, none⟩ := by
        rcases ho.2 with ⟨e, h0⟩ | ⟨g, cap, cur, e, _⟩
        · exact absurd h0 (by omega)
        · simp only [Value.slice.injEq] at e; exact ⟨g, e.1⟩
      have hconv := run_convert_bytes_back (P := Try.prog) wr 22 9 5 ⟨g, 0, none⟩ c' (textL xs) Try.underlying22 Try.underlying5 Try.underlying9 (fun j hj => by
        rw [Addr.add_lit, Nat.zero_add, ho.cellAt _ (by rw [textL_len] at hj; omega)]
        simp [Lib.byteCells, hj])
      rw [textL_len] at hconv
      clear ho
      go_wp2
      go_ret
      exact ⟨rfl, hb⟩

set_option maxHeartbeats 1000000 in
theorem specRowText_any (v : Value) (xs : List Int) (w : World) (h : RdInts w v xs) (ok : ∀ x ∈ xs, I64 x) (hs : xs.length ≤ 1048576) :
    Calls Try.prog 11 #[v] w fun e w' => e = .returned (.string (rtV xs)) ∧ Below w.heap.size w w' := by
  obtain ⟨a1, ca, rfl, _, _, _⟩ := id h
  by_cases g : RowOk xs
  rotate_left
  · rw [rt_no g]
    have G := Lib.hid (rowB_no g); clear g
    go_enter Try.func11, Try.ntmps11
    go_wp2_with fail
    refine (l27Row_any _ xs _ h).mono ?_
    rw [G.out]
    rintro e w1 ⟨rfl, hb1⟩
    go_wp2
    go_ret
    exact ⟨rfl, hb1.below _⟩
  · rw [rt_yes g]
    have G := Lib.hid (rowB_yes g); have GR := Lib.hid g; clear g
    go_enter Try.func11, Try.ntmps11
    go_wp2_with fail
    refine (l27Row_any _ xs _ h).mono ?_
    rw [G.out]
    rintro e w1 ⟨rfl, hq1⟩
    have hb1 := hq1.below w.heap.size
    go_wp2_with fail
    refine (l27Text_any _ xs _ (Ints.mono h hb1) GR.out).mono ?_
    rintro e w2 ⟨rfl, hb2⟩
    go_wp2
    go_ret
    exact ⟨rfl, hb1.trans (hb2.mono hb1.size)⟩

set_option maxHeartbeats 2000000 in
theorem implRowText_any (v : Value) (xs : List Int) (w : World) (h : RdInts w v xs) (ok : ∀ x ∈ xs, I64 x) (hs : xs.length ≤ 1048576) :
    Calls Try.prog 13 #[v] w fun e w' => e = .returned (.string (rtV xs)) ∧ Below w.heap.size w w' := by
  obtain ⟨a1, ca, rfl, _, _, _⟩ := id h
  by_cases g : RowOk xs
  rotate_left
  · rw [rt_no g]
    have G := Lib.hid (rowB_no g); clear g
    go_enter Try.func13, Try.ntmps13
    go_wp2_with fail
    refine (implValidRow_any _ xs _ h ok hs).mono ?_
    rw [G.out]
    rintro e w1 ⟨rfl, hb1⟩
    go_wp2
    go_ret
    exact ⟨rfl, hb1⟩
  · rw [rt_yes g]
    have hst := g.stage
    unfold stage at hst
    have G := Lib.hid (rowB_yes g); have HR := Lib.hid g; clear g
    go_enter Try.func13, Try.ntmps13
    go_wp2_with fail
    refine (implValidRow_any _ xs _ h ok hs).mono ?_
    rw [G.out]
    rintro e w1 ⟨rfl, hb1⟩
    have hz1 := hb1.size
    have HB1 := Lib.hid hb1
    have hi1 := Lib.hid (Ints.mono h hb1)
    clear hb1
    go_wp2_with fail
    go_loopw [11, 5] (fun i _ wr => ∃ k : Nat, k ≤ xs.length ∧ i = .int .i64 (k : Int) ∧ Lib.IsBuilder 55 5 w1.heap.size w1.heap.size (Lib.byteCells (textL (xs.take k))) wr ∧ Below w1.heap.size w1 wr) (fun i _ _ => xs.length - (intOf i).toNat)
    case atStart => exact ⟨0, Nat.zero_le _, by go_num, by simpa [textL, Lib.byteCells] using Lib.fresh_isBuilder 55 5 w1, by (repeat (first | with_reducible exact Below.refl _ _ | with_reducible exact hbw | (with_reducible refine Below.setCell ?_ ?_ _; rotate_left; · first | exact Nat.le_refl _ | omega | (simp; done) | (simp; omega)) | (with_reducible refine Below.alloc ?_ ?_ _; rotate_left; · first | exact Nat.le_refl _ | omega | (simp; done) | (simp; omega)) | with_reducible refine below_drewN ?_ _ | with_reducible refine Below.drew ?_))⟩
    case round =>
      obtain ⟨k, hk, rfl, ho, hb⟩ := hrel
      have HO := Lib.hid ho; clear ho
      have hz := hb.size
      by_cases hlt : k < xs.length
      · obtain ⟨b1, o1, rfl, x1⟩ := (Ints.mono hi1.out hb).cells (by simp <;> omega)
        have d1 : wr.cell? ⟨b1, o1 + k, none⟩ = some (.int .i64 xs[k]) := x1 k _ (by simp [hlt])
        have hm := HR.out.mem xs[k] (List.getElem_mem hlt)
        obtain ⟨p, hp⟩ : ∃ p : Nat, xs[k] = (p : Int) := ⟨xs[k].toNat, by omega⟩
        have HS := Lib.hid (cells_step xs hlt)
        have hl : (Lib.byteCells (textL (xs.take k))).length ≤ 1000000000 := by rw [Lib.byteCells_length, textL_len, List.length_take]; omega
        have HL := Lib.hid hl
        have HP := Lib.hid hp
        rw [hp] at d1
        have hpp : p = 1 ∨ p = 2 ∨ p = 3 ∨ p = 4 ∨ p = 5 ∨ p = 6 ∨ p = 7 ∨ p = 8 ∨ p = 9 ∨ p = 10 ∨ p = 11 ∨ p = 12 := by omega
        clear x1 hm hp hl
        rcases hpp with rfl | rfl | rfl | rfl | rfl | rfl | rfl | rfl | rfl | rfl | rfl | rfl
        all_goals
          go_wp2_with fail
          refine (writeByte_any w1.heap.size w1.heap.size _ _ _ HO.out HL.out hz).mono ?_
          rintro e w5 ⟨rfl, ho5, hb5⟩
          have HO5 := Lib.hid ho5; have HB5 := Lib.hid (hb.trans hb5)
          clear ho5 hb5
          go_wp2
          go_roundw
          case rel => exact ⟨k + 1, by omega, by go_num, by rw [HS.out, HP.out]; exact HO5.out, HB5.out⟩
          case measure => simp [intOf] <;> omega
      · obtain rfl : k = xs.length := by omega
        have ho := HO.out
        rw [List.take_length] at ho
        have HO2 := Lib.hid ho; clear ho
        go_wp2_with fail
        refine (Try.Builder_String_any w1.heap.size w1.heap.size (textL xs) _ HO2.out hz).mono ?_
        rintro e w5 ⟨rfl, hb5⟩
        go_wp2
        go_ret
        exact ⟨rfl, HB1.out.trans ((hb.trans hb5).mono hz1)⟩

end Go.Proofs.Ytadnejajbdipoaa
