/- The reference's decimal text of a number. Contract of l01Dec. -/
import Derived.Test.YtijhlllajddlpaaDoorDecL
import Derived.Test.YtijhlllajddlpaaDoorInfo
set_option linter.unusedSimpArgs false
set_option linter.unnecessarySimpa false
set_option linter.unusedVariables false
set_option maxRecDepth 100000
namespace Go.Proofs.YtijhlllajddlpaaDoor
open Go.RowKit

theorem info_u8 : (Tryd.prog.info? 5).map (fun i => (i.zero, i.size, i.bytes)) = some (some (.int .u8 0), 1, 1) := by kernel_rfl

set_option maxHeartbeats 4000000 in
theorem l01Dec_any (n : Int) (w : World) (hn : I64 n) :
    Calls Tryd.prog 65 #[.int .i64 n] w fun e w' => e = .returned (.string ⟨(Lib.itoa n).toArray⟩) ∧ Below w.heap.size w w' := by
  have hb := hn.bd
  by_cases h0 : n = 0
  · subst h0
    have E0 := Lib.hid (show (⟨#[48]⟩ : ByteArray) = ⟨(Lib.itoa 0).toArray⟩ by rw [itoa_pos (by omega), show (0 : Int).natAbs = 0 from rfl, Lib.decDigits, dif_pos (by omega)]; rfl)
    go_enter Tryd.func65, Tryd.ntmps65
    go_wp2
    go_ret
    exact ⟨by rw [← E0.out]; rfl, Below.refl _ _⟩
  have d0 : (n == 0) = false := by simpa using h0
  have HL := Lib.hid (decDigits_len hn)
  obtain ⟨a, ha⟩ : ∃ a, a = n.natAbs := ⟨_, rfl⟩
  have hapos : 0 < a := by omega
  by_cases hp : 0 ≤ n
  · have HI := Lib.hid (itoa_pos hp)
    rw [← ha] at HL HI
    have en : n = (a : Int) := by omega
    subst en
    clear hn ha h0
    go_enter Tryd.func65, Tryd.ntmps65
    go_wp2_with fail
    go_loopw [3, 4, 5] (fun o m _ wr => ∃ (ds : List UInt8) (u k : Nat) (a' : Option Addr) (c' : Nat), ds.length = k ∧ o = .slice a' k c' ∧ m = .int .i64 (u : Int) ∧ u ≤ a ∧ Digs a u ds ∧ wr.ownsRow w.heap.size 5 1 (.slice a' k c') k (Lib.byteCells ds) ∧ Below w.heap.size w wr) (fun _ m _ _ => (intOf m).natAbs)
    case atStart => exact ⟨[], a, 0, some ⟨w.heap.size, 0, none⟩, 0, rfl, rfl, rfl, Nat.le_refl _, Digs.start hapos, by simpa [Lib.byteCells] using owns_empty w 5 1 _ (Nat.le_refl _), by (repeat (first | with_reducible exact Below.refl _ _ | with_reducible exact hbw | (with_reducible refine Below.setCell ?_ ?_ _; rotate_left; · first | exact Nat.le_refl _ | omega | (simp; done) | (simp; omega)) | (with_reducible refine Below.alloc ?_ ?_ _; rotate_left; · first | exact Nat.le_refl _ | omega | (simp; done) | (simp; omega)) | with_reducible refine below_drewN ?_ _ | with_reducible refine Below.drew ?_))⟩
    case round =>
      obtain ⟨ds, u, k, a', c', hk, rfl, rfl, hu, hD, ho, hbw⟩ := hrel
      have HK := Lib.hid hk; have HD := Lib.hid hD; have HO := Lib.hid ho; have HB := Lib.hid hbw
      have hz := hbw.size
      have hk21 : k ≤ 21 := by have := HD.out.len; have := HL.out; have := HK.out; omega
      clear hk hD ho hbw
      by_cases h1 : u = 0
      · subst h1
        rw [show ((0 : Nat) : Int) = 0 from rfl]
        have HR := Lib.hid (show ds.reverse = Lib.itoa (a : Int) by rw [HI.out, ← HD.out.done])
        have K22 : k ≤ 22 := by omega
        have K0 : 0 < k := by
          have h1 := congrArg List.length HD.out.done
          have h2 : 0 < (Lib.decDigits a).length := by rw [Lib.decDigits_length]; exact Lib.nDigits_pos a
          have := HK.out
          simp at h1; omega
        obtain ⟨es, rfl⟩ : ∃ es, es = ds := ⟨_, rfl⟩
        obtain ⟨K, rfl⟩ : ∃ K, K = k := ⟨_, rfl⟩
        obtain ⟨w7, rfl⟩ : ∃ w7 : World, w7 = wr := ⟨_, rfl⟩
        go_wp2_with fail
        go_loopw [6, 7] (fun o i wq => ∃ (j : Nat) (iv : Int) (a2 : Option Addr) (c2 : Nat), j ≤ K ∧ o = .slice a2 j c2 ∧ i = .int .i64 iv ∧ iv = (K : Int) - 1 - (j : Int) ∧ wq.ownsRow w7.heap.size 5 1 (.slice a2 j c2) j (Lib.byteCells (es.reverse.take j)) ∧ Below w7.heap.size w7 wq) (fun _ i _ => (intOf i + 1).toNat)
        case atStart => exact ⟨0, (K : Int) - 1, some ⟨w7.heap.size, 0, none⟩, 0, Nat.zero_le _, rfl, by go_num, by omega, by simpa [Lib.byteCells] using owns_empty w7 5 1 _ (Nat.le_refl _), by (repeat (first | with_reducible exact Below.refl _ _ | with_reducible exact hbw | (with_reducible refine Below.setCell ?_ ?_ _; rotate_left; · first | exact Nat.le_refl _ | omega | (simp; done) | (simp; omega)) | (with_reducible refine Below.alloc ?_ ?_ _; rotate_left; · first | exact Nat.le_refl _ | omega | (simp; done) | (simp; omega)) | with_reducible refine below_drewN ?_ _ | with_reducible refine Below.drew ?_))⟩
        case round =>
          obtain ⟨j, iv, a2, c2, hj, rfl, rfl, hiv, ho2, hb2⟩ := hrel
          have HO2 := Lib.hid ho2
          have hz2 := hb2.size
          have hbw2 := Lib.hid (HB.out.trans (hb2.mono hz))
          have row := owns_mono HO.out hb2
          have HB2 := Lib.hid hb2
          clear ho2 hb2
          by_cases hlt : j < K
          · obtain ⟨q, rfl⟩ : ∃ q : Nat, iv = (q : Int) := ⟨iv.toNat, by omega⟩
            have hqk : q < K := by omega
            have wq1 : IntKind.i64.wrap ((q : Int) - 1) = (q : Int) - 1 := IntWalk.i64_in _ (by omega)
            obtain ⟨g, rfl⟩ : ∃ g, a' = some ⟨g, 0, none⟩ := by
              rcases row.2 with ⟨e, h0⟩ | ⟨g, cap, cur, e, _⟩
              · omega
              · simp only [Value.slice.injEq] at e; exact ⟨g, e.1⟩
            have hjl : j < es.reverse.length := by rw [List.length_reverse, HK.out]; exact hlt
            have hql : q < es.length := by rw [HK.out]; exact hqk
            have ej : es.reverse[j] = es[q] := by
              rw [List.getElem_reverse]
              congr 1
              have := HK.out
              omega
            have d2 := row.cellAt q (by omega)
            rw [byteCells_eq, List.getElem?_map, List.getElem?_eq_getElem hql] at d2
            simp only [Option.map_some] at d2
            have HS := Lib.hid (show Lib.byteCells (es.reverse.take (j + 1)) = Lib.byteCells (es.reverse.take j) ++ [.int .u8 (es[q].toNat : Int)] from by rw [List.take_succ_eq_append_getElem hjl, ej, byteCells_snoc])
            have ht0 := es[q].toNat_lt
            have t0 : (0 : Int) ≤ (es[q].toNat : Int) := by omega
            have t1 : (es[q].toNat : Int) ≤ 255 := by omega
            have HIV := Lib.hid hiv
            clear row ej ht0 hiv
            generalize (es[q].toNat : Int) = b at d2 HS t0 t1
            go_wp2_with (at_builtin; refine append_one_at rfl _ _ 37 rfl w7.heap.size 5 (.int .u8 0) 1 1 Tryd.underlying37 info_u8 rfl (by decide) _ j _ rfl HO2.out [.int .u8 b] rfl (by simp [Value.oneCell']) wr.heap.size rfl rfl (by omega) (by decide) hz2 ?_)
            intro a8 c8 w8 ho8 hg8 hb8 _
            have HN := Lib.hid (show w8.ownsRow w7.heap.size 5 1 (.slice a8 (j + 1) c8) (j + 1) (Lib.byteCells (es.reverse.take (j + 1))) from by rw [HS.out]; exact ho8)
            have HB8 := Lib.hid (HB2.out.trans hb8)
            clear ho8 hg8 hb8 HO2
            go_wp2
            go_roundw
            case rel => exact ⟨j + 1, (q : Int) - 1, a8, c8, by omega, rfl, rfl, by have := HIV.out; omega, HN.out, HB8.out⟩
            case measure => simp [intOf] <;> omega
          · obtain rfl : j = K := by omega
            obtain rfl : iv = -1 := by omega
            have ho := HO2.out
            rw [List.take_of_length_le (by rw [List.length_reverse, HK.out]; exact Nat.le_refl _), HR.out] at ho
            obtain ⟨g, rfl⟩ : ∃ g, a2 = some ⟨g, 0, none⟩ := by
              rcases ho.2 with ⟨e, h0⟩ | ⟨g, cap, cur, e, _⟩
              · exact absurd h0 (by omega)
              · simp only [Value.slice.injEq] at e; exact ⟨g, e.1⟩
            have hln : (Lib.itoa (a : Int)).length = j := by rw [← HR.out, List.length_reverse]; exact HK.out
            have hconv := run_convert_bytes_back (P := Tryd.prog) wr 37 9 5 ⟨g, 0, none⟩ c2 (Lib.itoa (a : Int)) Tryd.underlying37 Tryd.underlying5 Tryd.underlying9 (fun i hi => by
              rw [Addr.add_lit, Nat.zero_add, ho.cellAt _ (by omega), byteCells_eq]
              simp [hi])
            rw [hln] at hconv
            clear ho hln row hiv
            go_wp2
            go_ret
            exact ⟨rfl, hbw2.out⟩
      · have d1 : ((u : Int) != 0) = true := by simp; omega
        have hu1 : 0 < u := by omega
        have dd : decide ((u : Int) % 10 < 0) = false := by simp; omega
        go_wp2_with (at_builtin; refine append_one_at rfl _ _ 37 rfl w.heap.size 5 (.int .u8 0) 1 1 Tryd.underlying37 info_u8 rfl (by decide) _ k _ rfl HO.out [.int .u8 (48 + (u : Int) % 10)] rfl (by simp [Value.oneCell']) wr.heap.size rfl rfl (by omega) (by decide) hz ?_)
        intro a7 c7 w7 ho7 hg7 hb7 _
        have HN := Lib.hid (show w7.ownsRow w.heap.size 5 1 (.slice a7 (k + 1) c7) (k + 1) (Lib.byteCells (ds ++ [UInt8.ofNat (48 + u % 10)])) from by
          rw [byteCells_snoc, ofNat_toNat (by omega)]
          have e : ((48 + u % 10 : Nat) : Int) = 48 + (u : Int) % 10 := by omega
          rw [e]; exact ho7)
        have HB7 := Lib.hid (HB.out.trans hb7)
        clear ho7 hg7 hb7 HO
        go_wp2
        go_roundw
        case rel => exact ⟨ds ++ [UInt8.ofNat (48 + u % 10)], u / 10, k + 1, a7, c7, by simp [HK.out], rfl, by first | go_num | rfl, by omega, HD.out.step hu1, HN.out, HB7.out⟩
        case measure => simp [intOf] <;> omega
  · have HI := Lib.hid (itoa_negs (show n < 0 by omega))
    rw [← ha] at HL HI
    have en : n = -(a : Int) := by omega
    subst en
    clear hn ha h0
    go_enter Tryd.func65, Tryd.ntmps65
    go_wp2_with fail
    go_loopw [3, 4, 5] (fun o m _ wr => ∃ (ds : List UInt8) (u k : Nat) (a' : Option Addr) (c' : Nat), ds.length = k ∧ o = .slice a' k c' ∧ m = .int .i64 (-(u : Int)) ∧ u ≤ a ∧ Digs a u ds ∧ wr.ownsRow w.heap.size 5 1 (.slice a' k c') k (Lib.byteCells ds) ∧ Below w.heap.size w wr) (fun _ m _ _ => (intOf m).natAbs)
    case atStart => exact ⟨[], a, 0, some ⟨w.heap.size, 0, none⟩, 0, rfl, rfl, rfl, Nat.le_refl _, Digs.start hapos, by simpa [Lib.byteCells] using owns_empty w 5 1 _ (Nat.le_refl _), by (repeat (first | with_reducible exact Below.refl _ _ | with_reducible exact hbw | (with_reducible refine Below.setCell ?_ ?_ _; rotate_left; · first | exact Nat.le_refl _ | omega | (simp; done) | (simp; omega)) | (with_reducible refine Below.alloc ?_ ?_ _; rotate_left; · first | exact Nat.le_refl _ | omega | (simp; done) | (simp; omega)) | with_reducible refine below_drewN ?_ _ | with_reducible refine Below.drew ?_))⟩
    case round =>
      obtain ⟨ds, u, k, a', c', hk, rfl, rfl, hu, hD, ho, hbw⟩ := hrel
      have HK := Lib.hid hk; have HD := Lib.hid hD; have HO := Lib.hid ho; have HB := Lib.hid hbw
      have hz := hbw.size
      have hk21 : k ≤ 21 := by have := HD.out.len; have := HL.out; have := HK.out; omega
      clear hk hD ho hbw
      by_cases h1 : u = 0
      · subst h1
        go_wp2_with (at_builtin; refine append_one_at rfl _ _ 37 rfl w.heap.size 5 (.int .u8 0) 1 1 Tryd.underlying37 info_u8 rfl (by decide) _ k _ rfl HO.out [.int .u8 45] rfl (by simp [Value.oneCell']) wr.heap.size rfl rfl (by omega) (by decide) hz ?_)
        intro a7 c7 w7 ho7 hg7 hb7 _
        have HO7 := Lib.hid (show w7.ownsRow w.heap.size 5 1 (.slice a7 (k + 1) c7) (k + 1) (Lib.byteCells (ds ++ [45])) from by rw [byteCells_snoc]; exact ho7)
        have HB7 := Lib.hid (HB.out.trans hb7)
        have HR := Lib.hid (show (ds ++ [45]).reverse = Lib.itoa (-(a : Int)) by rw [HI.out, ← HD.out.done]; simp)
        have HK7 := Lib.hid (show (ds ++ [45]).length = k + 1 by simp [HK.out])
        have hz7 := HB7.out.size
        generalize ds ++ [45] = es at HO7 HR HK7
        obtain ⟨K, hK⟩ : ∃ K, K = k + 1 := ⟨_, rfl⟩
        rw [← hK] at HO7 HK7 ⊢
        have K22 : K ≤ 22 := by omega
        have K0 : 0 < K := by omega
        clear ho7 hg7 hb7 HO hK HB HK HD hz
        go_wp2_with fail
        go_loopw [6, 7] (fun o i wq => ∃ (j : Nat) (iv : Int) (a2 : Option Addr) (c2 : Nat), j ≤ K ∧ o = .slice a2 j c2 ∧ i = .int .i64 iv ∧ iv = (K : Int) - 1 - (j : Int) ∧ wq.ownsRow w7.heap.size 5 1 (.slice a2 j c2) j (Lib.byteCells (es.reverse.take j)) ∧ Below w7.heap.size w7 wq) (fun _ i _ => (intOf i + 1).toNat)
        case atStart => exact ⟨0, (K : Int) - 1, some ⟨w7.heap.size, 0, none⟩, 0, Nat.zero_le _, rfl, by go_num, by omega, by simpa [Lib.byteCells] using owns_empty w7 5 1 _ (Nat.le_refl _), by (repeat (first | with_reducible exact Below.refl _ _ | with_reducible exact hbw | (with_reducible refine Below.setCell ?_ ?_ _; rotate_left; · first | exact Nat.le_refl _ | omega | (simp; done) | (simp; omega)) | (with_reducible refine Below.alloc ?_ ?_ _; rotate_left; · first | exact Nat.le_refl _ | omega | (simp; done) | (simp; omega)) | with_reducible refine below_drewN ?_ _ | with_reducible refine Below.drew ?_))⟩
        case round =>
          obtain ⟨j, iv, a2, c2, hj, rfl, rfl, hiv, ho2, hb2⟩ := hrel
          have HO2 := Lib.hid ho2
          have hz2 := hb2.size
          have hbw2 := Lib.hid (HB7.out.trans (hb2.mono hz7))
          have row := owns_mono HO7.out hb2
          have HB2 := Lib.hid hb2
          clear ho2 hb2
          by_cases hlt : j < K
          · obtain ⟨q, rfl⟩ : ∃ q : Nat, iv = (q : Int) := ⟨iv.toNat, by omega⟩
            have hqk : q < K := by omega
            have wq1 : IntKind.i64.wrap ((q : Int) - 1) = (q : Int) - 1 := IntWalk.i64_in _ (by omega)
            obtain ⟨g, rfl⟩ : ∃ g, a7 = some ⟨g, 0, none⟩ := by
              rcases row.2 with ⟨e, h0⟩ | ⟨g, cap, cur, e, _⟩
              · omega
              · simp only [Value.slice.injEq] at e; exact ⟨g, e.1⟩
            have hjl : j < es.reverse.length := by rw [List.length_reverse, HK7.out]; exact hlt
            have hql : q < es.length := by rw [HK7.out]; exact hqk
            have ej : es.reverse[j] = es[q] := by
              rw [List.getElem_reverse]
              congr 1
              have := HK7.out
              omega
            have d2 := row.cellAt q (by omega)
            rw [byteCells_eq, List.getElem?_map, List.getElem?_eq_getElem hql] at d2
            simp only [Option.map_some] at d2
            have HS := Lib.hid (show Lib.byteCells (es.reverse.take (j + 1)) = Lib.byteCells (es.reverse.take j) ++ [.int .u8 (es[q].toNat : Int)] from by rw [List.take_succ_eq_append_getElem hjl, ej, byteCells_snoc])
            have ht0 := es[q].toNat_lt
            have t0 : (0 : Int) ≤ (es[q].toNat : Int) := by omega
            have t1 : (es[q].toNat : Int) ≤ 255 := by omega
            have HIV := Lib.hid hiv
            clear row ej ht0 hiv
            generalize (es[q].toNat : Int) = b at d2 HS t0 t1
            go_wp2_with (at_builtin; refine append_one_at rfl _ _ 37 rfl w7.heap.size 5 (.int .u8 0) 1 1 Tryd.underlying37 info_u8 rfl (by decide) _ j _ rfl HO2.out [.int .u8 b] rfl (by simp [Value.oneCell']) wr.heap.size rfl rfl (by omega) (by decide) hz2 ?_)
            intro a8 c8 w8 ho8 hg8 hb8 _
            have HN := Lib.hid (show w8.ownsRow w7.heap.size 5 1 (.slice a8 (j + 1) c8) (j + 1) (Lib.byteCells (es.reverse.take (j + 1))) from by rw [HS.out]; exact ho8)
            have HB8 := Lib.hid (HB2.out.trans hb8)
            clear ho8 hg8 hb8 HO2
            go_wp2
            go_roundw
            case rel => exact ⟨j + 1, (q : Int) - 1, a8, c8, by omega, rfl, rfl, by have := HIV.out; omega, HN.out, HB8.out⟩
            case measure => simp [intOf] <;> omega
          · obtain rfl : j = K := by omega
            obtain rfl : iv = -1 := by omega
            have ho := HO2.out
            rw [List.take_of_length_le (by rw [List.length_reverse, HK7.out]; exact Nat.le_refl _), HR.out] at ho
            obtain ⟨g, rfl⟩ : ∃ g, a2 = some ⟨g, 0, none⟩ := by
              rcases ho.2 with ⟨e, h0⟩ | ⟨g, cap, cur, e, _⟩
              · exact absurd h0 (by omega)
              · simp only [Value.slice.injEq] at e; exact ⟨g, e.1⟩
            have hln : (Lib.itoa (-(a : Int))).length = j := by rw [← HR.out, List.length_reverse]; exact HK7.out
            have hconv := run_convert_bytes_back (P := Tryd.prog) wr 37 9 5 ⟨g, 0, none⟩ c2 (Lib.itoa (-(a : Int))) Tryd.underlying37 Tryd.underlying5 Tryd.underlying9 (fun i hi => by
              rw [Addr.add_lit, Nat.zero_add, ho.cellAt _ (by omega), byteCells_eq]
              simp [hi])
            rw [hln] at hconv
            clear ho hln row hiv
            go_wp2
            go_ret
            exact ⟨rfl, hbw2.out⟩
      · have d1 : ((-(u : Int)) != 0) = true := by simp; omega
        have hu1 : 0 < u := by omega
        by_cases hm0 : u % 10 = 0
        · have dd : decide (0 < (u : Int) % 10) = false := by simp; omega
          go_wp2_with (at_builtin; refine append_one_at rfl _ _ 37 rfl w.heap.size 5 (.int .u8 0) 1 1 Tryd.underlying37 info_u8 rfl (by decide) _ k _ rfl HO.out [.int .u8 (48 + -((u : Int) % 10))] rfl (by simp [Value.oneCell']) wr.heap.size rfl rfl (by omega) (by decide) hz ?_)
          intro a7 c7 w7 ho7 hg7 hb7 _
          have HN := Lib.hid (show w7.ownsRow w.heap.size 5 1 (.slice a7 (k + 1) c7) (k + 1) (Lib.byteCells (ds ++ [UInt8.ofNat (48 + u % 10)])) from by
            rw [byteCells_snoc, ofNat_toNat (by omega)]
            have e : ((48 + u % 10 : Nat) : Int) = 48 + -((u : Int) % 10) := by omega
            rw [e]; exact ho7)
          have HB7 := Lib.hid (HB.out.trans hb7)
          clear ho7 hg7 hb7 HO
          go_wp2
          go_roundw
          case rel => exact ⟨ds ++ [UInt8.ofNat (48 + u % 10)], u / 10, k + 1, a7, c7, by simp [HK.out], rfl, by first | go_num | rfl, by omega, HD.out.step hu1, HN.out, HB7.out⟩
          case measure => simp [intOf] <;> omega
        have dd : decide (0 < (u : Int) % 10) = true := by simp; omega
        go_wp2_with (at_builtin; refine append_one_at rfl _ _ 37 rfl w.heap.size 5 (.int .u8 0) 1 1 Tryd.underlying37 info_u8 rfl (by decide) _ k _ rfl HO.out [.int .u8 (48 + (u : Int) % 10)] rfl (by simp [Value.oneCell']) wr.heap.size rfl rfl (by omega) (by decide) hz ?_)
        intro a7 c7 w7 ho7 hg7 hb7 _
        have HN := Lib.hid (show w7.ownsRow w.heap.size 5 1 (.slice a7 (k + 1) c7) (k + 1) (Lib.byteCells (ds ++ [UInt8.ofNat (48 + u % 10)])) from by
          rw [byteCells_snoc, ofNat_toNat (by omega)]
          have e : ((48 + u % 10 : Nat) : Int) = 48 + (u : Int) % 10 := by omega
          rw [e]; exact ho7)
        have HB7 := Lib.hid (HB.out.trans hb7)
        clear ho7 hg7 hb7 HO
        go_wp2
        go_roundw
        case rel => exact ⟨ds ++ [UInt8.ofNat (48 + u % 10)], u / 10, k + 1, a7, c7, by simp [HK.out], rfl, by first | go_num | rfl, by omega, HD.out.step hu1, HN.out, HB7.out⟩
        case measure => simp [intOf] <;> omega

end Go.Proofs.YtijhlllajddlpaaDoor
