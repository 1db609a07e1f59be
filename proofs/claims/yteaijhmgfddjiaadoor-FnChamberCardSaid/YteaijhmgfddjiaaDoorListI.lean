/- The program's text of a list of numbers. Contracts of Decimal and ListText. -/
import Derived.Test.YteaijhmgfddjiaaDoorShelf
import Derived.Test.YteaijhmgfddjiaaDoorListL
import Derived.Test.YteaijhmgfddjiaaDoorInfo
import Derived.Test.YteaijhmgfddjiaaDoorWithin
import Derived.Lib.LaidTab
import Derived.Lib.AppendIntMem
set_option linter.unusedSimpArgs false
set_option linter.unnecessarySimpa false
set_option linter.unusedVariables false
set_option maxRecDepth 100000
namespace Go.Proofs.YteaijhmgfddjiaaDoor
open Go.RowKit

/-- The library's table of powers of ten is as its text lays it. -/
def Tab (w : World) : Prop := Lib.TabIs Tryd.prog w "internal/strconv.uint64pow10" .u64 Lib.pow10Tab
theorem Tab.mono {w w' : World} (h : Tab w) (hb : Below w.heap.size w w') : Tab w' := by
  unfold Tab Lib.TabIs World.var? at *
  cases hg : Tryd.prog.globalNamed "internal/strconv.uint64pow10" with
  | none => rw [hg] at h; cases h
  | some g =>
    rw [hg] at h
    simp only [Option.bind_some] at h ⊢
    rcases Nat.lt_or_ge g w.heap.size with hl | hl
    · rw [hb.block g hl]; exact h
    · rw [Array.getElem?_eq_none hl] at h; cases h
theorem info_str : (Tryd.prog.info? 9).map (fun i => (i.zero, i.size, i.bytes)) = some (some (.string ⟨#[]⟩), 1, 16) := by kernel_rfl

theorem Decimal_any (n : Int) (w : World) (hn : I64 n) (ht : Tab w) :
    Calls Tryd.prog 38 #[.int .i64 n] w fun e w' => e = .returned (.string (decB n)) ∧ Below w.heap.size w w' := by
  have hb := hn.bd
  go_enter Tryd.func38, Tryd.ntmps38
  go_wp2_with fail
  refine (Tryd.strconv_FormatInt_10 n hb.1 hb.2 _ ht).mono ?_
  rintro e w' ⟨rfl, k, os, rfl⟩
  have HB := Lib.hid (Lib.below_grow w.heap.size w (Nat.le_refl _) k os)
  go_wp2
  go_ret
  exact ⟨rfl, HB.out⟩
theorem isValue_any (b : Bool) (n : Int) (w : World) (h : b = decide (isVal n)) :
    Calls Tryd.prog 37 #[.int .i64 n] w fun e w' => e = .returned (.bool b) ∧ w' = w := by
  have H := Lib.hid h; clear h
  go_enter Tryd.func37, Tryd.ntmps37
  go_wp2_with (go_at_call 21; refine (within_any b _ _ _ _ H.out).mono ?_; rintro e w' ⟨rfl, rfl⟩)
  go_ret
  exact ⟨rfl, rfl⟩
theorem badVal_any (b : Bool) (n : Int) (w : World) (h : b = decide (isVal n)) :
    Calls Tryd.prog 36 #[.int .i64 n] w fun e w' => e = .returned (.bool (!b)) ∧ w' = w := by
  have H := Lib.hid h
  clear h
  go_enter Tryd.func36, Tryd.ntmps36
  go_wp2_with fail
  refine (isValue_any b n _ H.out).mono ?_
  rintro e w' ⟨rfl, rfl⟩
  go_wp2
  go_ret
  exact ⟨rfl, rfl⟩
def Idx (xs : List Int) (w : World) (e : Ending) (w' : World) : Prop := ∃ i : Int, e = .returned (.int .i64 i) ∧ (valsB xs = true → i < 0) ∧ (valsB xs = false → 0 ≤ i) ∧ Below w.heap.size w w'

set_option maxHeartbeats 1000000 in
theorem indexVal_any (v : Value) (xs : List Int) (w : World) (h1 : Ints w v xs) :
    Calls Tryd.prog 45 #[v, .func (.func 36) #[] #[]] w (Idx xs w) := by
  obtain ⟨a, ca, rfl, hca, hcm, _⟩ := id h1
  have hm : xs.length ≤ maxLen := by omega
  clear hca hcm
  unfold maxLen at hm
  go_enter Tryd.func45, Tryd.ntmps45
  go_wp2
  go_loopw [8] (fun i wr => ∃ k : Nat, k ≤ xs.length ∧ i = .int .i64 k ∧ (∀ i (hi : i < xs.length), i < k → isVal xs[i]) ∧ Below w.heap.size w wr) (fun i _ => xs.length - (intOf i).toNat)
  case atStart => exact ⟨0, Nat.zero_le _, rfl, by intro i _ h; omega, Below.refl _ _⟩
  case round =>
    obtain ⟨k, hk, rfl, ht', hb⟩ := hrel
    have ht := Lib.hid ht'; clear ht'
    have HB := Lib.hid hb
    have hr := Ints.mono h1 hb
    clear hb
    by_cases hlt : k < xs.length
    · obtain ⟨b1, o1, rfl, x1⟩ := hr.cells (by simp <;> omega)
      have d1 : wr.cell? ⟨b1, o1 + k, none⟩ = some (.int .i64 xs[k]) := x1 k _ (by simp [hlt])
      clear x1 hr
      by_cases hv : isVal xs[k]
      · have H2 := Lib.hid (yesB hv)
        have HV := Lib.hid hv
        clear hv
        go_wp2_with fail
        refine (badVal_any true xs[k] _ H2.out).mono ?_
        rintro e w1 ⟨rfl, rfl⟩
        go_wp2
        go_roundw
        case rel => exact ⟨k + 1, by omega, by go_num, fun i hi hik => by
          by_cases e : i = k
          · subst e; exact HV.out
          · exact ht.out i hi (by omega), HB.out⟩
        case measure => simp [intOf]; omega
      · have H2 := Lib.hid (noB hv)
        have H := Lib.hid (show valsB xs = false by unfold valsB; exact decide_eq_false fun h => hv (h _ (List.getElem_mem hlt)))
        clear hv
        go_wp2_with fail
        refine (badVal_any false xs[k] _ H2.out).mono ?_
        rintro e w1 ⟨rfl, rfl⟩
        go_wp2
        go_ret
        exact ⟨_, rfl, fun h => by (rw [H.out] at h; cases h), fun _ => by omega, HB.out⟩
    · have H := Lib.hid (show valsB xs = true by
        unfold valsB
        refine decide_eq_true fun n hn => ?_
        obtain ⟨i, hi, rfl⟩ := List.getElem_of_mem hn
        exact ht.out i hi (by omega))
      go_wp2
      go_ret
      exact ⟨_, rfl, fun _ => by omega, fun h => by (rw [H.out] at h; cases h), HB.out⟩
theorem containsVal_any (b : Bool) (v : Value) (xs : List Int) (w : World) (h1 : Ints w v xs) (h : b = valsB xs) :
    Calls Tryd.prog 35 #[v, .func (.func 36) #[] #[]] w fun e w' => e = .returned (.bool (!b)) ∧ Below w.heap.size w w' := by
  have H := Lib.hid h
  clear h
  go_enter Tryd.func35, Tryd.ntmps35
  go_wp2_with fail
  refine (indexVal_any v xs _ h1).mono ?_
  rintro e w1 ⟨i, rfl, h1, h2, hb1⟩
  have HB := Lib.hid hb1
  clear hb1
  cases b
  · have h3 := h2 H.out.symm
    have d : decide (0 ≤ i) = true := by simpa using h3
    clear h1 h2 h3
    have D := Lib.hid d
    go_wp2
    go_ret
    exact ⟨rfl, HB.out⟩
  · have h3 := h1 H.out.symm
    have d : decide (0 ≤ i) = false := by simpa using h3
    clear h1 h2 h3
    have D := Lib.hid d
    go_wp2
    go_ret
    exact ⟨rfl, HB.out⟩

set_option maxHeartbeats 2000000 in
theorem ListText_any (v : Value) (xs : List Int) (w : World) (h : Ints w v xs) (hl : xs.length ≤ 2000000) (ok : ∀ x ∈ xs, I64 x) (ht : Tab w) :
    Calls Tryd.prog 26 #[v] w fun e w' => e = .returned (.string (listT xs)) ∧ Below w.heap.size w w' := by
  obtain ⟨a, ca, rfl, _, _, _⟩ := id h
  by_cases h1 : 64 < xs.length
  · have E := Lib.hid (listT_long h1)
    have d1 : decide (64 < (xs.length : Int)) = true := by simp; omega
    have d2 : decide (64 < xs.length) = true := by simp; omega
    rw [E.out]
    clear h1
    go_enter Tryd.func26, Tryd.ntmps26
    go_wp2
    go_ret
    exact ⟨rfl, Below.refl _ _⟩
  have d1 : decide (64 < (xs.length : Int)) = false := by simp; omega
  have d2 : decide (64 < xs.length) = false := by simp; omega
  obtain ⟨b, hb⟩ : ∃ b, b = valsB xs := ⟨_, rfl⟩
  have HV := Lib.hid hb
  cases b
  · have E := Lib.hid (listT_bad hb.symm)
    rw [E.out]
    clear hb h1
    go_enter Tryd.func26, Tryd.ntmps26
    go_wp2_with fail
    refine (containsVal_any false _ xs _ h HV.out).mono ?_
    rintro e w1 ⟨rfl, hb1⟩
    have HB1 := Lib.hid hb1
    clear hb1
    go_wp2
    go_ret
    exact ⟨rfl, HB1.out⟩
  have E := Lib.hid (listT_yes (by omega) hb.symm)
  have hl64 : xs.length ≤ 64 := by omega
  rw [E.out]
  clear hb h1
  go_enter Tryd.func26, Tryd.ntmps26
  go_wp2_with fail
  refine (containsVal_any true _ xs _ h HV.out).mono ?_
  rintro e w1 ⟨rfl, hb1⟩
  have HB1 := Lib.hid hb1
  have hz1 := hb1.size
  have HT := Lib.hid (ht.mono hb1)
  have hr1 := Lib.hid (Ints.mono h hb1)
  clear hb1
  by_cases h0 : xs.length = 0
  · have hx : xs = [] := List.eq_nil_of_length_eq_zero h0
    subst hx
    have E1 := Lib.hid (show listU [] = bytesB [45] from if_pos rfl)
    go_wp2
    go_ret
    exact ⟨by rw [E1.out]; rfl, HB1.out⟩
  have d0 : ((xs.length : Int) == 0) = false := by simp; intro e; exact h0 (by rw [e]; rfl)
  have E1 := Lib.hid (show listU xs = bytesB (commaT xs) from if_neg (fun e => h0 (by rw [e]; rfl)))
  have OK := Lib.hid ok
  have hpos : 0 < xs.length := by omega
  clear h0 ok
  go_wp2_with fail
  go_loopw [3, 5, 18] (fun o _ i wr => ∃ (k : Nat) (a' : Option Addr) (c' : Nat), k ≤ xs.length ∧ i = .int .i64 (k : Int) ∧ o = .slice a' k c' ∧ wr.ownsRow w1.heap.size 9 1 (.slice a' k c') k ((xs.take k).map fun n => Value.string (decB n)) ∧ Below w1.heap.size w1 wr) (fun _ _ i _ => xs.length - (intOf i).toNat)
  case atStart => exact ⟨0, none, 0, Nat.zero_le _, by go_num, rfl, by simpa using owns_nil w1 9 1 _, Below.refl _ _⟩
  case round =>
    obtain ⟨k, a', c', hk, rfl, rfl, ho, hb⟩ := hrel
    have hz := hb.size
    have HB := Lib.hid hb
    have HO := Lib.hid ho
    have hr := Ints.mono hr1.out hb
    clear hb ho
    by_cases hlt : k < xs.length
    · obtain ⟨b1, o1, rfl, x1⟩ := hr.cells (by simp <;> omega)
      have e1 : wr.cell? ⟨b1, o1 + k, none⟩ = some (.int .i64 xs[k]) := x1 k _ (by simp [hlt])
      clear x1 hr
      go_wp2_with fail
      refine (Decimal_any xs[k] _ (OK.out _ (List.getElem_mem hlt)) (HT.out.mono HB.out)).mono ?_
      rintro e w2 ⟨rfl, hb2⟩
      have hz2 := hb2.size
      have HO2 := Lib.hid (owns_mono HO.out hb2)
      have HB2 := Lib.hid (HB.out.trans (hb2.mono hz))
      clear hb2 HO
      go_wp2_with (at_builtin; refine append_one_at rfl _ _ 59 rfl w1.heap.size 9 (.string ⟨#[]⟩) 1 16 Tryd.underlying59 info_str rfl (by decide) _ k _ rfl HO2.out [.string (decB xs[k])] rfl (by simp [Value.oneCell']) w2.heap.size rfl rfl (by omega) (by decide) (by omega) ?_)
      intro a7 c7 w7 ho7 hg7 hb7 _
      have HN := Lib.hid (show w7.ownsRow w1.heap.size 9 1 (.slice a7 (k + 1) c7) (k + 1) ((xs.take (k + 1)).map fun n => Value.string (decB n)) from by
        rw [List.take_succ_eq_append_getElem hlt, List.map_append, List.map_take]; exact ho7)
      have HB7 := Lib.hid (HB2.out.trans hb7)
      clear ho7 hg7 hb7 HO2
      go_wp2
      go_roundw
      case rel => exact ⟨k + 1, a7, c7, by omega, by go_num, rfl, HN.out, HB7.out⟩
      case measure => simp [intOf] <;> omega
    · obtain rfl : k = xs.length := by omega
      have ho := HO.out
      rw [List.take_length] at ho
      obtain ⟨g, cap, e, hg⟩ : ∃ g cap, a' = some ⟨g, 0, none⟩ ∧ xs.length ≤ c' := by
        rcases ho.2 with ⟨e, h0⟩ | ⟨g, cap, cur, e, _, _, hc, _⟩
        · omega
        · simp only [Value.slice.injEq] at e
          exact ⟨g, 0, e.1, by omega⟩
      subst e
      have hglt := (ho.lt g rfl).2
      have hcl : ∀ (j : Nat) x, (xs.map decB)[j]? = some x → wr.cell? ⟨g, 0 + j, none⟩ = some (.string x) := fun j x hx => by
        have hj : j < xs.length := by have := (List.getElem?_eq_some_iff.1 hx).1; simpa using this
        rw [Nat.zero_add, ho.cellAt j (by omega)]
        simp only [List.getElem?_map, List.getElem?_eq_getElem hj, Option.map_some, Option.some.injEq] at hx ⊢
        rw [hx]
      have hjo : Lib.join ((xs.map decB).map (·.data.toList)) [44] = commaT xs := by
        unfold commaT
        rw [List.map_map]
        first | (congr 1; done) | (congr 1; exact List.map_congr_left fun n _ => by simp [Function.comp, decB, bytesB_list])
      have hcl2 := commaT_len xs OK.out
      have hml : (xs.map decB).length = xs.length := by simp
      have hj := Tryd.strings_Join g 0 c' (xs.map decB) ⟨#[44]⟩ wr hcl hglt (by rw [hml]; omega) (by rw [hml]; exact hg) (by rw [show (⟨#[44]⟩ : ByteArray).data.toList = [44] from rfl, hjo]; omega)
      rw [show (⟨#[44]⟩ : ByteArray).data.toList = [44] from rfl, hjo, hml] at hj
      have HJ := Lib.hid hj
      clear ho hcl hjo hcl2 hml hj hglt hg
      go_wp2_with fail
      refine HJ.out.mono ?_
      rintro e w3 ⟨rfl, hb3⟩
      have HB3 := Lib.hid (HB1.out.trans ((HB.out.trans (hb3.mono hz)).mono hz1))
      clear hb3
      go_wp2
      go_ret
      exact ⟨by rw [E1.out]; rfl, HB3.out⟩

end Go.Proofs.YteaijhmgfddjiaaDoor
