/- Contract of spec.l25Sorted. -/
import Derived.Test.YthnnjjcopehccaaTonG
import Derived.Test.YthnnjjcopehccaaSortL
import Derived.Test.YthnnjjcopehccaaValidTun
import Derived.Test.YthnnjjcopehccaaKTun
set_option linter.unusedSimpArgs false
set_option linter.unnecessarySimpa false
set_option linter.unusedVariables false
set_option maxRecDepth 100000
namespace Go.Proofs.Ythnnjjcopehccaa
open Go.RowKit

theorem tons_drop {w : World} {base g n cap j : Nat} {d : List Ton} (h : w.ownsRow base 30 3 (.slice (some ⟨g, 0, none⟩) n cap) n (d.flatMap Ton.cells)) (hd : d.length = n) (hj : j ≤ n) :
    Sl w (.slice (some ⟨g, j * 3, none⟩) (n - j) (cap - j)) (n - j) ((d.drop j).flatMap Ton.cells) := by
  have h0 := Sl.of_owns h
  obtain ⟨a, c, e, h1, h2, _⟩ := h0
  simp only [Value.slice.injEq] at e
  obtain ⟨_, _, rfl⟩ := e
  refine ⟨_, _, rfl, by omega, by omega, fun i u hu => ⟨g, j * 3, rfl, ?_⟩⟩
  have e2 : d.flatMap Ton.cells = (d.take j).flatMap Ton.cells ++ (d.drop j).flatMap Ton.cells := by rw [← List.flatMap_append, List.take_append_drop]
  have hl : ((d.take j).flatMap Ton.cells).length = j * 3 := by rw [Ton.len_cells, List.length_take, Nat.min_eq_left (by omega)]
  have hi : i < ((d.drop j).flatMap Ton.cells).length := (List.getElem?_eq_some_iff.1 hu).1
  rw [Ton.len_cells, List.length_drop] at hi
  rw [h.cellAt _ (by omega), e2, List.getElem?_append_right (by omega), hl, show j * 3 + i - j * 3 = i by omega]
  exact hu
theorem tons_take {w : World} {base g n cap j : Nat} {d : List Ton} (h : w.ownsRow base 30 3 (.slice (some ⟨g, 0, none⟩) n cap) n (d.flatMap Ton.cells)) (hd : d.length = n) (hj : j ≤ n) :
    Sl w (.slice (some ⟨g, 0, none⟩) j cap) j ((d.take j).flatMap Ton.cells) := by
  have h0 := Sl.of_owns h
  obtain ⟨a, c, e, h1, h2, _⟩ := h0
  simp only [Value.slice.injEq] at e
  obtain ⟨_, _, rfl⟩ := e
  refine ⟨_, _, rfl, by omega, by omega, fun i u hu => ⟨g, 0, rfl, ?_⟩⟩
  have e2 : d.flatMap Ton.cells = (d.take j).flatMap Ton.cells ++ (d.drop j).flatMap Ton.cells := by rw [← List.flatMap_append, List.take_append_drop]
  have hi : i < ((d.take j).flatMap Ton.cells).length := (List.getElem?_eq_some_iff.1 hu).1
  have hl : ((d.take j).flatMap Ton.cells).length = j * 3 := by rw [Ton.len_cells, List.length_take, Nat.min_eq_left (by omega)]
  rw [h.cellAt _ (by omega), Nat.zero_add, e2, List.getElem?_append_left hi]
  exact hu
theorem ins_done {d xs : List Ton} {j k : Nat} (hk : k < xs.length) (hj : j ≤ d.length) (hp : d.Perm (xs.take k)) (hs : Srt d) (h1 : ∀ y ∈ d.drop j, before xs[k] y) (h2 : ∀ (h : 0 < j) (h' : j - 1 < d.length), ¬ before xs[k] d[j - 1]) :
    (d.take j ++ [xs[k]] ++ d.drop j).Perm (xs.take (k + 1)) ∧ Srt (d.take j ++ [xs[k]] ++ d.drop j) := by
  have e0 : d.take j ++ d.drop j = d := List.take_append_drop j d
  refine ⟨?_, ?_⟩
  · rw [List.take_succ_eq_append_getElem hk, List.append_assoc, List.singleton_append]
    refine (perm_mid _ _ _).trans ?_
    rw [e0]
    exact (List.Perm.cons _ hp).trans (List.perm_append_singleton _ _).symm
  · rw [List.append_assoc, List.singleton_append]
    refine Srt.insert (by rw [e0]; exact hs) ?_ (fun y hy => leT_of (h1 y hy))
    rcases Nat.eq_zero_or_pos j with rfl | h0
    · intro y hy; simp at hy
    · have hj : j - 1 < d.length := by omega
      have e1 : d.take j = d.take (j - 1) ++ [d[j - 1]] := by
        have := List.take_succ_eq_append_getElem hj
        rwa [show j - 1 + 1 = j by omega] at this
      rw [e1]
      have hs1 : Srt (d.take j) := by rw [← e0] at hs; exact hs.left
      rw [e1] at hs1
      exact hs1.all_le (h2 h0 hj)

set_option maxHeartbeats 2000000 in
theorem l25Sorted_any (v : Value) (xs : List Ton) (w : World) (h : Tons w v xs) (hs : xs.length ≤ 1048576) :
    Calls Try.prog 15 #[v] w fun e w' => ∃ v' d, e = .returned v' ∧ d.Perm xs ∧ Srt d ∧ OwnRow w.heap.size w'.heap.size w' 30 3 v' xs.length (d.flatMap Ton.cells) ∧ Below w.heap.size w w' := by
  obtain ⟨a, ca, rfl, _⟩ := id h
  go_enter Try.func15, Try.ntmps15
  go_wp2_with fail
  go_loopw [3, 4, 5, 6] (fun o i _ _ wr => ∃ (k : Nat) (d : List Ton) (g c' : Nat), k ≤ xs.length ∧ i = .int .i64 (k : Int) ∧ o = .slice (some ⟨g, 0, none⟩) k c' ∧ d.length = k ∧ d.Perm (xs.take k) ∧ Srt d ∧ wr.ownsRow w.heap.size 30 3 (.slice (some ⟨g, 0, none⟩) k c') k (d.flatMap Ton.cells) ∧ Below w.heap.size w wr) (fun _ i _ _ _ => xs.length - (intOf i).toNat)
  case atStart => exact ⟨0, [], w.heap.size, 0, Nat.zero_le _, by go_num, rfl, rfl, by simp, srt_nil, owns_empty w _ _ _ (Nat.le_refl _), by (repeat (first | with_reducible exact Below.refl _ _ | with_reducible exact hbw | (with_reducible refine Below.setCell ?_ ?_ _; rotate_left; · first | exact Nat.le_refl _ | omega | (simp; done) | (simp; omega)) | (with_reducible refine Below.alloc ?_ ?_ _; rotate_left; · first | exact Nat.le_refl _ | omega | (simp; done) | (simp; omega)) | with_reducible refine below_drewN ?_ _ | with_reducible refine Below.drew ?_))⟩
  case round =>
    obtain ⟨k, d, g, c', hk, rfl, rfl, hd, hp, hso, ho, hb⟩ := hrel
    have hc' : k ≤ c' := by
      obtain ⟨_, _, e, h1, _, _⟩ := Sl.of_owns ho
      simp only [Value.slice.injEq] at e
      obtain ⟨_, _, rfl⟩ := e
      exact h1
    have hzr := hb.size
    have HD := Lib.hid hd; have HP := Lib.hid hp; have HS := Lib.hid hso; have HO := Lib.hid ho; clear hd hp hso ho
    by_cases hlt : k < xs.length
    · obtain ⟨b1, o1, rfl, hT⟩ := TonIn.of (h.mono hb) hlt
      obtain ⟨wo, rfl⟩ : ∃ wo : World, wo = wr := ⟨_, rfl⟩
      go_wp2_with fail
      go_loopw [5] (fun j wr2 => ∃ j0 : Nat, j0 ≤ k ∧ j = .int .i64 (j0 : Int) ∧ (∀ y ∈ d.drop j0, before xs[k] y) ∧ Q wo wr2) (fun j _ => (intOf j).toNat)
      case atStart => exact ⟨k, Nat.le_refl _, rfl, (by rw [List.drop_of_length_le (by rw [HD.out]; exact Nat.le_refl _)]; intro y hy; cases hy), Q.refl _⟩
      case round =>
        obtain ⟨j, hj, rfl, hx, hq⟩ := hrel
        have HX := Lib.hid hx; clear hx
        by_cases hj0 : 0 < j
        · have d0 : decide (0 < (j : Int)) = true := by simpa using hj0
          have hjd : j - 1 < d.length := by rw [HD.out]; omega
          have hO := HO.out
          rw [← HD.out] at hO
          obtain ⟨b2, o2, e2, hT2⟩ := TonIn.of (Tons.q (Tons.of_owns hO) hq) hjd
          simp only [Option.some.injEq, Addr.mk.injEq, and_true] at e2
          obtain ⟨rfl, rfl⟩ := e2
          rw [Nat.zero_add] at hT2
          have z1 : ((j : Int) - 1).toNat = j - 1 := by omega
          have b1' : (1 : Int) ≤ (j : Int) := by omega
          have w1' : IntKind.i64.wrap ((j : Int) - 1) = (j : Int) - 1 := IntWalk.i64_in _ (by omega)
          have hT1 : TonIn wr b1 (o1 + k * 3) xs[k] := ⟨by rw [hq.heap]; exact hT.1, (hq.cell _).trans hT.2, (hq.cell _).trans hT.3, (hq.cell _).trans hT.4⟩
          by_cases hbf : before xs[k] d[j - 1]
          · have HB := Lib.hid hbf; clear hbf hO
            go_wp2_with fail
            go_quiet ((go_at_call 16; exact quiet_q (l25Before_any true _ _ _ _ xs[k] d[j - 1] _ ⟨hT1.1, hT1.2, hT1.3, hT1.4⟩ ⟨hT2.1, hT2.2, hT2.3, hT2.4⟩ (yesB HB.out))))
            go_wp2
            go_roundw
            case rel =>
              refine ⟨j - 1, by omega, by go_num, ?_, hq.drewN _⟩
              rw [List.drop_eq_getElem_cons hjd, show j - 1 + 1 = j by omega]
              intro y hy
              rcases List.mem_cons.1 hy with rfl | hy
              · exact HB.out
              · exact HX.out y hy
            case measure => simp [intOf] <;> omega
          · have HB := Lib.hid hbf; clear hbf hO
            go_wp2_with fail
            go_quiet ((go_at_call 16; exact quiet_q (l25Before_any false _ _ _ _ xs[k] d[j - 1] _ ⟨hT1.1, hT1.2, hT1.3, hT1.4⟩ ⟨hT2.1, hT2.2, hT2.3, hT2.4⟩ (noB HB.out))))
            have hnb : ∀ (h : 0 < j) (h' : j - 1 < d.length), ¬ before xs[k] d[j - 1] := fun _ _ => HB.out
            have NB := Lib.hid hnb; clear hnb HB d0 hjd z1 w1' hT1 hT2
            have hq' := hq.drewN nq
            obtain ⟨wq, hwq⟩ : ∃ wq : World, wq = wr.drewN nq := ⟨_, rfl⟩
            rw [← hwq] at hq' ⊢
            clear hwq hq
            obtain ⟨p1, p2⟩ := ins_done hlt (by rw [HD.out]; exact hj) HP.out HS.out HX.out NB.out
            have hbq : Below wo.heap.size wo wq := hq'.below _
            have hzq := hbq.size
            have hoq := owns_mono HO.out hbq
            have P1 := Lib.hid p1; have P2 := Lib.hid p2; have HQ := Lib.hid hbq; have HOQ := Lib.hid hoq; have HT := Lib.hid hT; have HBw := Lib.hid hb
            clear p1 p2 hbq hq' hoq hT hb
            have jc : (j : Int) ≤ (c' : Int) := by omega
            have jk : (j : Int) ≤ (k : Int) := by omega
            have jn : (0 : Int) ≤ (j : Int) := by omega
            have z1 : (j : Int).toNat = j := by omega
            have lt1 : ((d.take j).flatMap Ton.cells).length = j * 3 := by rw [Ton.len_cells, List.length_take, Nat.min_eq_left (by rw [HD.out]; exact hj)]
            have lt2 : ((d.drop j).flatMap Ton.cells).length = (k - j) * 3 := by rw [Ton.len_cells, List.length_drop, HD.out]
            go_wp2_with (at_builtin; refine append_all rfl _ _ 23 rfl wq.heap.size 30 _ 3 24 Try.underlying23 info_Tone rfl (by decide) (.slice (some ⟨wq.heap.size, 0, none⟩) 0 0) 0 [] rfl (owns_empty wq 30 3 _ (Nat.le_refl _)) (.slice (some ⟨g, 0, none⟩) j c') j ((d.take j).flatMap Ton.cells) rfl ((tons_take HOQ.out HD.out hj).mono (by (repeat (first | with_reducible exact Below.refl _ _ | with_reducible exact hbw | (with_reducible refine Below.setCell ?_ ?_ _; rotate_left; · first | exact Nat.le_refl _ | omega | (simp; done) | (simp; omega)) | (with_reducible refine Below.alloc ?_ ?_ _; rotate_left; · first | exact Nat.le_refl _ | omega | (simp; done) | (simp; omega)) | with_reducible refine below_drewN ?_ _ | with_reducible refine Below.drew ?_)))) lt1 (Ton.one _) (by omega) (by decide) (by simp) ?_)
            intro a1 cap1 w1 ho1 hg1 hb1
            try rw [Nat.zero_add, List.nil_append] at ho1
            have hbq1 : Below wq.heap.size wq w1 := Below.trans (by (repeat (first | with_reducible exact Below.refl _ _ | with_reducible exact hbw | (with_reducible refine Below.setCell ?_ ?_ _; rotate_left; · first | exact Nat.le_refl _ | omega | (simp; done) | (simp; omega)) | (with_reducible refine Below.alloc ?_ ?_ _; rotate_left; · first | exact Nat.le_refl _ | omega | (simp; done) | (simp; omega)) | with_reducible refine below_drewN ?_ _ | with_reducible refine Below.drew ?_))) hb1
            have hz1 := hbq1.size
            have hbo1 : Below wo.heap.size wo w1 := HQ.out.trans (hbq1.mono hzq)
            have u0 := cellB hbo1 HT.out.2
            have u1 := cellB hbo1 HT.out.3
            have u2 := cellB hbo1 HT.out.4
            have ul : b1 < w1.heap.size + 1 := by have := HT.out.1; omega
            have ul2 : b1 < w1.heap.size := by have := HT.out.1; omega
            have HO1 := Lib.hid ho1; have HB1 := Lib.hid hbo1
            clear ho1 hg1 hb1 hbq1 hbo1
            go_wp2_with (at_builtin; refine append_one_at rfl _ _ 23 rfl wq.heap.size 30 _ 3 24 Try.underlying23 info_Tone rfl (by decide) _ j _ rfl HO1.out [.int .i64 xs[k].note, .int .i64 xs[k].start, .int .i64 xs[k].len] rfl (by intro u hu; simp at hu; rcases hu with rfl | rfl | rfl <;> rfl) w1.heap.size rfl rfl (by omega) (by decide) (by omega) ?_)
            intro a2 cap2 w2 ho2 hg2 hb2 hat2
            have hz2 := hb2.size
            have hbo2 : Below wo.heap.size wo w2 := HB1.out.trans (hb2.mono hzq)
            have HO2 := Lib.hid ho2; have HB2 := Lib.hid hbo2
            clear ho2 hg2 hb2 hat2 hbo2 u0 u1 u2
            by_cases hjc : c' = j
            · have hkj : k = j := by omega
              have hsl : Sl w2 (.slice (some ⟨g, 0, none⟩) (k - j) 0) (k - j) ((d.drop j).flatMap Ton.cells) := by
                rw [List.drop_of_length_le (by rw [HD.out]; omega)]
                exact ⟨_, _, rfl, by omega, by simp [maxLen], fun i u hu => by simp at hu⟩
              have HSL := Lib.hid hsl; have HKJ := Lib.hid hkj; clear hsl hkj
              go_wp2_with (at_builtin; refine append_all rfl _ _ 23 rfl wq.heap.size 30 _ 3 24 Try.underlying23 info_Tone rfl (by decide) _ (j + 1) _ rfl HO2.out (.slice (some ⟨g, 0, none⟩) (k - j) 0) (k - j) ((d.drop j).flatMap Ton.cells) rfl HSL.out lt2 (Ton.one _) (by omega) (by decide) (by omega) ?_)
              intro a3 cap3 w3 ho3 hg3 hb3
              have ej : j + 1 + (k - j) = k + 1 := by omega
              rw [ej] at ho3
              rw [ej]
              obtain ⟨g3, rfl⟩ : ∃ g3, a3 = some ⟨g3, 0, none⟩ := by
                rcases ho3.2 with ⟨e, h0⟩ | ⟨g3, cap, cur, e, _⟩
                · omega
                · simp only [Value.slice.injEq] at e; exact ⟨g3, e.1⟩
              have hbo3 : Below wo.heap.size wo w3 := HB2.out.trans (hb3.mono hzq)
              have HO3 := Lib.hid ho3; have HB3 := Lib.hid hbo3
              clear ho3 hg3 hb3 hbo3
              go_wp2
              go_roundw
              case rel =>
                refine ⟨k + 1, d.take j ++ [xs[k]] ++ d.drop j, g3, cap3, by omega, by go_num, rfl, ?_, P1.out, P2.out, ?_, HBw.out.trans (HB3.out.mono hzr)⟩
                · rw [List.length_append, List.length_append, List.length_take, List.length_drop, HD.out, Nat.min_eq_left hj, List.length_singleton]; omega
                · have := owns_base (base' := w.heap.size) HO3.out (by omega)
                  rw [List.flatMap_append, List.flatMap_append, List.flatMap_singleton, List.append_assoc]
                  exact this
              case measure => simp [intOf] <;> omega
            · have hjc2 : ¬ j = c' := fun e => hjc e.symm
              have hjc3 : ¬ (c' : Int) = (j : Int) := by omega
              have hjc4 : ¬ (j : Int) = (c' : Int) := by omega
              go_wp2_with (at_builtin; refine append_all rfl _ _ 23 rfl wq.heap.size 30 _ 3 24 Try.underlying23 info_Tone rfl (by decide) _ (j + 1) _ rfl HO2.out (.slice (some ⟨g, j * 3, none⟩) (k - j) (c' - j)) (k - j) ((d.drop j).flatMap Ton.cells) rfl (tons_drop (owns_mono HO.out HB2.out) HD.out hj) lt2 (Ton.one _) (by omega) (by decide) (by omega) ?_)
              intro a3 cap3 w3 ho3 hg3 hb3
              have ej : j + 1 + (k - j) = k + 1 := by omega
              rw [ej] at ho3
              rw [ej]
              obtain ⟨g3, rfl⟩ : ∃ g3, a3 = some ⟨g3, 0, none⟩ := by
                rcases ho3.2 with ⟨e, h0⟩ | ⟨g3, cap, cur, e, _⟩
                · omega
                · simp only [Value.slice.injEq] at e; exact ⟨g3, e.1⟩
              have hbo3 : Below wo.heap.size wo w3 := HB2.out.trans (hb3.mono hzq)
              have HO3 := Lib.hid ho3; have HB3 := Lib.hid hbo3
              clear ho3 hg3 hb3 hbo3
              go_wp2
              go_roundw
              case rel =>
                refine ⟨k + 1, d.take j ++ [xs[k]] ++ d.drop j, g3, cap3, by omega, by go_num, rfl, ?_, P1.out, P2.out, ?_, HBw.out.trans (HB3.out.mono hzr)⟩
                · rw [List.length_append, List.length_append, List.length_take, List.length_drop, HD.out, Nat.min_eq_left hj, List.length_singleton]; omega
                · have := owns_base (base' := w.heap.size) HO3.out (by omega)
                  rw [List.flatMap_append, List.flatMap_append, List.flatMap_singleton, List.append_assoc]
                  exact this
              case measure => simp [intOf] <;> omega
        · have d0 : decide (0 < (j : Int)) = false := by simpa using hj0
          have hnb : ∀ (h : 0 < j) (h' : j - 1 < d.length), ¬ before xs[k] d[j - 1] := fun h _ => absurd h hj0
          have NB := Lib.hid hnb; clear hnb
          go_wp2_with fail
          go_quiet (fail)
          clear d0
          have hq' := hq.drewN nq
          obtain ⟨wq, hwq⟩ : ∃ wq : World, wq = wr.drewN nq := ⟨_, rfl⟩
          rw [← hwq] at hq' ⊢
          clear hwq hq
          obtain ⟨p1, p2⟩ := ins_done hlt (by rw [HD.out]; exact hj) HP.out HS.out HX.out NB.out
          have hbq : Below wo.heap.size wo wq := hq'.below _
          have hzq := hbq.size
          have hoq := owns_mono HO.out hbq
          have P1 := Lib.hid p1; have P2 := Lib.hid p2; have HQ := Lib.hid hbq; have HOQ := Lib.hid hoq; have HT := Lib.hid hT; have HBw := Lib.hid hb
          clear p1 p2 hbq hq' hoq hT hb
          have jc : (j : Int) ≤ (c' : Int) := by omega
          have jk : (j : Int) ≤ (k : Int) := by omega
          have jn : (0 : Int) ≤ (j : Int) := by omega
          have z1 : (j : Int).toNat = j := by omega
          have lt1 : ((d.take j).flatMap Ton.cells).length = j * 3 := by rw [Ton.len_cells, List.length_take, Nat.min_eq_left (by rw [HD.out]; exact hj)]
          have lt2 : ((d.drop j).flatMap Ton.cells).length = (k - j) * 3 := by rw [Ton.len_cells, List.length_drop, HD.out]
          go_wp2_with (at_builtin; refine append_all rfl _ _ 23 rfl wq.heap.size 30 _ 3 24 Try.underlying23 info_Tone rfl (by decide) (.slice (some ⟨wq.heap.size, 0, none⟩) 0 0) 0 [] rfl (owns_empty wq 30 3 _ (Nat.le_refl _)) (.slice (some ⟨g, 0, none⟩) j c') j ((d.take j).flatMap Ton.cells) rfl ((tons_take HOQ.out HD.out hj).mono (by (repeat (first | with_reducible exact Below.refl _ _ | with_reducible exact hbw | (with_reducible refine Below.setCell ?_ ?_ _; rotate_left; · first | exact Nat.le_refl _ | omega | (simp; done) | (simp; omega)) | (with_reducible refine Below.alloc ?_ ?_ _; rotate_left; · first | exact Nat.le_refl _ | omega | (simp; done) | (simp; omega)) | with_reducible refine below_drewN ?_ _ | with_reducible refine Below.drew ?_)))) lt1 (Ton.one _) (by omega) (by decide) (by simp) ?_)
          intro a1 cap1 w1 ho1 hg1 hb1
          try rw [Nat.zero_add, List.nil_append] at ho1
          have hbq1 : Below wq.heap.size wq w1 := Below.trans (by (repeat (first | with_reducible exact Below.refl _ _ | with_reducible exact hbw | (with_reducible refine Below.setCell ?_ ?_ _; rotate_left; · first | exact Nat.le_refl _ | omega | (simp; done) | (simp; omega)) | (with_reducible refine Below.alloc ?_ ?_ _; rotate_left; · first | exact Nat.le_refl _ | omega | (simp; done) | (simp; omega)) | with_reducible refine below_drewN ?_ _ | with_reducible refine Below.drew ?_))) hb1
          have hz1 := hbq1.size
          have hbo1 : Below wo.heap.size wo w1 := HQ.out.trans (hbq1.mono hzq)
          have u0 := cellB hbo1 HT.out.2
          have u1 := cellB hbo1 HT.out.3
          have u2 := cellB hbo1 HT.out.4
          have ul : b1 < w1.heap.size + 1 := by have := HT.out.1; omega
          have ul2 : b1 < w1.heap.size := by have := HT.out.1; omega
          have HO1 := Lib.hid ho1; have HB1 := Lib.hid hbo1
          clear ho1 hg1 hb1 hbq1 hbo1
          go_wp2_with (at_builtin; refine append_one_at rfl _ _ 23 rfl wq.heap.size 30 _ 3 24 Try.underlying23 info_Tone rfl (by decide) _ j _ rfl HO1.out [.int .i64 xs[k].note, .int .i64 xs[k].start, .int .i64 xs[k].len] rfl (by intro u hu; simp at hu; rcases hu with rfl | rfl | rfl <;> rfl) w1.heap.size rfl rfl (by omega) (by decide) (by omega) ?_)
          intro a2 cap2 w2 ho2 hg2 hb2 hat2
          have hz2 := hb2.size
          have hbo2 : Below wo.heap.size wo w2 := HB1.out.trans (hb2.mono hzq)
          have HO2 := Lib.hid ho2; have HB2 := Lib.hid hbo2
          clear ho2 hg2 hb2 hat2 hbo2 u0 u1 u2
          by_cases hjc : c' = j
          · have hkj : k = j := by omega
            have hsl : Sl w2 (.slice (some ⟨g, 0, none⟩) (k - j) 0) (k - j) ((d.drop j).flatMap Ton.cells) := by
              rw [List.drop_of_length_le (by rw [HD.out]; omega)]
              exact ⟨_, _, rfl, by omega, by simp [maxLen], fun i u hu => by simp at hu⟩
            have HSL := Lib.hid hsl; have HKJ := Lib.hid hkj; clear hsl hkj
            go_wp2_with (at_builtin; refine append_all rfl _ _ 23 rfl wq.heap.size 30 _ 3 24 Try.underlying23 info_Tone rfl (by decide) _ (j + 1) _ rfl HO2.out (.slice (some ⟨g, 0, none⟩) (k - j) 0) (k - j) ((d.drop j).flatMap Ton.cells) rfl HSL.out lt2 (Ton.one _) (by omega) (by decide) (by omega) ?_)
            intro a3 cap3 w3 ho3 hg3 hb3
            have ej : j + 1 + (k - j) = k + 1 := by omega
            rw [ej] at ho3
            rw [ej]
            obtain ⟨g3, rfl⟩ : ∃ g3, a3 = some ⟨g3, 0, none⟩ := by
              rcases ho3.2 with ⟨e, h0⟩ | ⟨g3, cap, cur, e, _⟩
              · omega
              · simp only [Value.slice.injEq] at e; exact ⟨g3, e.1⟩
            have hbo3 : Below wo.heap.size wo w3 := HB2.out.trans (hb3.mono hzq)
            have HO3 := Lib.hid ho3; have HB3 := Lib.hid hbo3
            clear ho3 hg3 hb3 hbo3
            go_wp2
            go_roundw
            case rel =>
              refine ⟨k + 1, d.take j ++ [xs[k]] ++ d.drop j, g3, cap3, by omega, by go_num, rfl, ?_, P1.out, P2.out, ?_, HBw.out.trans (HB3.out.mono hzr)⟩
              · rw [List.length_append, List.length_append, List.length_take, List.length_drop, HD.out, Nat.min_eq_left hj, List.length_singleton]; omega
              · have := owns_base (base' := w.heap.size) HO3.out (by omega)
                rw [List.flatMap_append, List.flatMap_append, List.flatMap_singleton, List.append_assoc]
                exact this
            case measure => simp [intOf] <;> omega
          · have hjc2 : ¬ j = c' := fun e => hjc e.symm
            have hjc3 : ¬ (c' : Int) = (j : Int) := by omega
            have hjc4 : ¬ (j : Int) = (c' : Int) := by omega
            go_wp2_with (at_builtin; refine append_all rfl _ _ 23 rfl wq.heap.size 30 _ 3 24 Try.underlying23 info_Tone rfl (by decide) _ (j + 1) _ rfl HO2.out (.slice (some ⟨g, j * 3, none⟩) (k - j) (c' - j)) (k - j) ((d.drop j).flatMap Ton.cells) rfl (tons_drop (owns_mono HO.out HB2.out) HD.out hj) lt2 (Ton.one _) (by omega) (by decide) (by omega) ?_)
            intro a3 cap3 w3 ho3 hg3 hb3
            have ej : j + 1 + (k - j) = k + 1 := by omega
            rw [ej] at ho3
            rw [ej]
            obtain ⟨g3, rfl⟩ : ∃ g3, a3 = some ⟨g3, 0, none⟩ := by
              rcases ho3.2 with ⟨e, h0⟩ | ⟨g3, cap, cur, e, _⟩
              · omega
              · simp only [Value.slice.injEq] at e; exact ⟨g3, e.1⟩
            have hbo3 : Below wo.heap.size wo w3 := HB2.out.trans (hb3.mono hzq)
            have HO3 := Lib.hid ho3; have HB3 := Lib.hid hbo3
            clear ho3 hg3 hb3 hbo3
            go_wp2
            go_roundw
            case rel =>
              refine ⟨k + 1, d.take j ++ [xs[k]] ++ d.drop j, g3, cap3, by omega, by go_num, rfl, ?_, P1.out, P2.out, ?_, HBw.out.trans (HB3.out.mono hzr)⟩
              · rw [List.length_append, List.length_append, List.length_take, List.length_drop, HD.out, Nat.min_eq_left hj, List.length_singleton]; omega
              · have := owns_base (base' := w.heap.size) HO3.out (by omega)
                rw [List.flatMap_append, List.flatMap_append, List.flatMap_singleton, List.append_assoc]
                exact this
            case measure => simp [intOf] <;> omega
    · obtain rfl : k = xs.length := by omega
      go_wp2
      go_ret
      have hp := HP.out
      rw [List.take_length] at hp
      exact ⟨_, d, rfl, hp, HS.out, OwnRow.mk' HO.out, hb⟩

end Go.Proofs.Ythnnjjcopehccaa
