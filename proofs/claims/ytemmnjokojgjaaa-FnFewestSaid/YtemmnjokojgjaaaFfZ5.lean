import Derived.Test.YtemmnjokojgjaaaFfZ4
import Derived.Test.YtemmnjokojgjaaaFfZ3
import Derived.Test.YtemmnjokojgjaaaFfZ2
/- Contract of spec.l25Sorted. -/
set_option linter.unusedSimpArgs false
set_option linter.unnecessarySimpa false
set_option linter.unusedVariables false
set_option maxRecDepth 100000
namespace Go.Proofs.Ytemmnjokojgjaaa
open Go.RowKit

theorem tons_drop {w : World} {base g n cap j : Nat} {d : List Ton} (h : w.ownsRow base 92 3 (.slice (some ⟨g, 0, none⟩) n cap) n (d.flatMap Ton.cells)) (hd : d.length = n) (hj : j ≤ n) :
    Sl w (.slice (some ⟨g, j * 3, none⟩) (n - j) (cap - j)) (n - j) ((d.drop j).flatMap Ton.cells) := by
  have h0 := Sl.of_owns h
  obtain ⟨a, c, e, h1, h2, _⟩ := h0
  simp only [Value.slice.injEq] at e
  obtain ⟨_, _, rfl⟩ := e
  refine ⟨_, _, rfl, by omega, by omega, fun i u hu => ⟨g, j * 3, rfl, ?_⟩⟩
  have e2 : d.flatMap Ton.cells = (d.take j).flatMap Ton.cells ++ (d.drop j).flatMap Ton.cells := by rw [← List.flatMap_append, List.take_append_drop]
  have hl : ((d.take j).flatMap Ton.cells).length = j * 3 := by rw [Ton.len_cells, List.length_take, Nat.min_eq_left (by omega)]
  have hi : i < ((d.drop j).flatMap Ton.cells).length := (List.getElem?_eq_some_iff.1 hu).1
  rw [Ton.len_cells, List.length_drop] at hi
  rw [h.cellAt _ (by omega), e2, List.getElem?_append_right (by omega), hl, show j * 3 + i - j * 3 = i by omega]
  exact hu
theorem tons_take {w : World} {base g n cap j : Nat} {d : List Ton} (h : w.ownsRow base 92 3 (.slice (some ⟨g, 0, none⟩) n cap) n (d.flatMap Ton.cells)) (hd : d.length = n) (hj : j ≤ n) :
    Sl w (.slice (some ⟨g, 0, none⟩) j cap) j ((d.take j).flatMap Ton.cells) := by
  have h0 := Sl.of_owns h
  obtain ⟨a, c, e, h1, h2, _⟩ := h0
  simp only [Value.slice.injEq] at e
  obtain ⟨_, _, rfl⟩ := e
  refine ⟨_, _, rfl, by omega, by omega, fun i u hu => ⟨g, 0, rfl, ?_⟩⟩
  have e2 : d.flatMap Ton.cells = (d.take j).flatMap Ton.cells ++ (d.drop j).flatMap Ton.cells := by rw [← List.flatMap_append, List.take_append_drop]
  have hi : i < ((d.take j).flatMap Ton.cells).length := (List.getElem?_eq_some_iff.1 hu).1
  have hl : ((d.take j).flatMap Ton.cells).length = j * 3 := by rw [Ton.len_cells, List.length_take, Nat.min_eq_left (by omega)]
  rw [h.cellAt _ (by omega), Nat.zero_add, e2, List.getElem?_append_left hi]
  exact hu
theorem ins_done {d xs : List Ton} {j k : Nat} (hk : k < xs.length) (hj : j ≤ d.length) (hp : d.Perm (xs.take k)) (hs : Srt d) (h1 : ∀ y ∈ d.drop j, before xs[k] y) (h2 : ∀ (h : 0 < j) (h' : j - 1 < d.length), ¬ before xs[k] d[j - 1]) :
    (d.take j ++ [xs[k]] ++ d.drop j).Perm (xs.take (k + 1)) ∧ Srt (d.take j ++ [xs[k]] ++ d.drop j) := by
  have e0 : d.take j ++ d.drop j = d := List.take_append_drop j d
  refine ⟨?_, ?_⟩
  · rw [List.take_succ_eq_append_getElem hk, List.append_assoc, List.singleton_append]
    refine (perm_mid _ _ _).trans ?_
    rw [e0]
    exact (List.Perm.cons _ hp).trans (List.perm_append_singleton _ _).symm
  · rw [List.append_assoc, List.singleton_append]
    refine Srt.insert (by rw [e0]; exact hs) ?_ (fun y hy => leT_of (h1 y hy))
    rcases Nat.eq_zero_or_pos j with rfl | h0
    · intro y hy; simp at hy
    · have hj : j - 1 < d.length := by omega
      have e1 : d.take j = d.take (j - 1) ++ [d[j - 1]] := by
        have := List.take_succ_eq_append_getElem hj
        rwa [show j - 1 + 1 = j by omega] at this
      rw [e1]
      have hs1 : Srt (d.take j) := by rw [← e0] at hs; exact hs.left
      rw [e1] at hs1
      exact hs1.all_le (h2 h0 hj)

set_option maxHeartbeats 2000000 in
theorem l25Sorted_any (v : Value) (xs : List Ton) (w : World) (h : Tons w v xs) (hs : xs.length ≤ 1048576) :
    Calls Try.prog 74 #[v] w fun e w' => ∃ v' d, e = .returned v' ∧ d.Perm xs ∧ Srt d ∧ OwnRow w.heap.size w'.heap.size w' 92 3 v' xs.length (d.flatMap Ton.cells) ∧ Below w.heap.size w w' := by
  obtain ⟨a, ca, rfl, _⟩ := id h
  go_enter Try.func74, Try.ntmps74
  go_wp2_with fail
  go_loopw [3, 4, 5, 6] (fun o i _ _ wr => ∃ (k : Nat) (d : List Ton) (g c' : Nat), k ≤ xs.length ∧ i = .int .i64 (k : Int) ∧ o = .slice (some ⟨g, 0, none⟩) k c' ∧ d.length = k ∧ d.Perm (xs.take k) ∧ Srt d ∧ wr.ownsRow w.heap.size 92 3 (.slice (some ⟨g, 0, none⟩) k c') k (d.flatMap Ton.cells) ∧ Below w.heap.size w wr) (fun _ i _ _ _ => xs.length - (intOf i).toNat)
  case atStart => exact ⟨0, [], w.heap.size, 0, Nat.zero_le _, by go_num, rfl, rfl, by simp, srt_nil, owns_empty w _ _ _ (Nat.le_refl _), by (repeat (first | with_reducible exact Below.refl _ _ | with_reducible exact hbw | (with_reducible refine Below.setCell ?_ ?_ _; rotate_left; · first | exact Nat.le_refl _ | omega | (simp; done) | (simp; omega)) | (with_reducible refine Below.alloc ?_ ?_ _; rotate_left; · first | exact Nat.le_refl _ | omega | (simp; done) | (simp; omega)) | with_reducible refine below_drewN ?_ _ | with_reducible refine Below.drew ?_))⟩
  case round =>
    obtain ⟨k, d, g, c', hk, rfl, rfl, hd, hp, hso, ho, hb⟩ := hrel
    have hc' : k ≤ c' := by
      obtain ⟨_, _, e, h1, _, _⟩ := Sl.of_owns ho
      simp only [Value.slice.injEq] at e
      obtain ⟨_, _, rfl⟩ := e
      exact h1
    have hzr := hb.size
    have HD := Lib.hid hd; have HP := Lib.hid hp; have HS := Lib.hid hso; have HO := Lib.hid ho; clear hd hp hso ho
    by_cases hlt : k < xs.length
    · obtain ⟨b1, o1, rfl, hT⟩ := TonIn.of (h.mono hb) hlt
      obtain ⟨wo, rfl⟩ : ∃ wo : World, wo = wr := ⟨_, rfl⟩
      go_wp2_with fail
      go_loopw [5] (fun j wr2 => ∃ j0 : Nat, j0 ≤ k ∧ j = .int .i64 (j0 : Int) ∧ (∀ y ∈ d.drop j0, before xs[k] y) ∧ Q wo wr2) (fun j _ => (intOf j).toNat)
      case atStart => exact ⟨k, Nat.le_refl _, rfl, (by rw [List.drop_of_length_le (by rw [HD.out]; exact Nat.le_refl _)]; intro y hy; cases hy), Q.refl _⟩
      case round =>
        obtain ⟨j, hj, rfl, hx, hq⟩ := hrel
        have HX := Lib.hid hx; clear hx
        by_cases hj0 : 0 < j
        · have d0 : decide (0 < (j : Int)) = true := by simpa using hj0
          have hjd : j - 1 < d.length := by rw [HD.out]; omega
          have hO := HO.out
          rw [← HD.out] at hO
          obtain ⟨b2, o2, e2, hT2⟩ := TonIn.of (Tons.q (Tons.of_owns hO) hq) hjd
          simp only [Option.some.injEq, Addr.mk.injEq, and_true] at e2
          obtain ⟨rfl, rfl⟩ := e2
          rw [Nat.zero_add] at hT2
          have z1 : ((j : Int) - 1).toNat = j - 1 := by omega
          have b1' : (1 : Int) ≤ (j : Int) := by omega
          have w1' : IntKind.i64.wrap ((j : Int) - 1) = (j : Int) - 1 := IntWalk.i64_in _ (by omega)
          have hT1 : TonIn wr b1 (o1 + k * 3) xs[k] := ⟨by rw [hq.heap]; exact hT.1, (hq.cell _).trans hT.2, (hq.cell _).trans hT.3, (hq.cell _).trans hT.4⟩
          by_cases hbf : before xs[k] d[j - 1]
          · have HB := Lib.hid hbf; clear hbf hO
            go_wp2_with fail
            go_quiet ((go_at_call 87; exact quiet_q (l25Before_any true _ _ _ _ xs[k] d[j - 1] _ ⟨hT1.1, hT1.2, hT1.3, hT1.4⟩ ⟨hT2.1, hT2.2, hT2.3, hT2.4⟩ (yesB HB.out))))
            go_wp2
            go_roundw
            case rel =>
              refine ⟨j - 1, by omega, by go_num, ?_, hq.drewN _⟩
              rw [List.drop_eq_getElem_cons hjd, show j - 1 + 1 = j by omega]
              intro y hy
              rcases List.mem_cons.1 hy with rfl | hy
              · exact HB.out
              · exact HX.out y hy
            case measure => simp [intOf] <;> omega
          · have HB := Lib.hid hbf; clear hbf hO
            go_wp2_with fail
            go_quiet ((go_at_call 87; exact quiet_q (l25Before_any false _ _ _ _ xs[k] d[j - 1] _ ⟨hT1.1, hT1.2, hT1.3, hT1.4⟩ ⟨hT2.1, hT2.2, hT2.3, hT2.4⟩ (noB HB.out))))
            have hnb : ∀ (h : 0 < j) (h' : j - 1 < d.length), ¬ before xs[k] d[j - 1] := fun _ _ => HB.out
            have NB := Lib.hid hnb; clear hnb HB d0 hjd z1 w1' hT1 hT2
            have hq' := hq.drewN nq
            obtain ⟨wq, hwq⟩ : ∃ wq : World, wq = wr.drewN nq := ⟨_, rfl⟩
            rw [← hwq] at hq' ⊢
            clear hwq hq
            obtain ⟨p1, p2⟩ := ins_done hlt (by rw [HD.out]; exact hj) HP.out HS.out HX.out NB.out
            have hbq : Below wo.heap.size wo wq := hq'.below _
            have hzq := hbq.size
            have hoq := owns_mono HO.out hbq
            have P1 := Lib.hid p1; have P2 := Lib.hid p2; have HQ := Lib.hid hbq; have HOQ := Lib.hid hoq; have HT := Lib.hid hT; have HBw := Lib.hid hb
            clear p1 p2 hbq hq' hoq hT hb
            have jc : (j : Int) ≤ (c' : Int) := by omega
            have jk : (j : Int) ≤ (k : Int) := by omega
            have jn : (0 : Int) ≤ (j : Int) := by omega
            have z1 : (j : Int).toNat = j := by omega
            have lt1 : ((d.take j).flatMap Ton.cells).length = j * 3 := by rw [Ton.len_cells, List.length_take, Nat.min_eq_left (by rw [HD.out]; exact hj)]
            have lt2 : ((d.drop j).flatMap Ton.cells).length = (k - j) * 3 := by rw [Ton.len_cells, List.length_drop, HD.out]
            go_wp2_with (at_builtin; refine append_all rfl _ _ 27 rfl wq.heap.size 92 _ 3 24 Try.underlying27 info_Tone rfl (by decide) (.slice (some ⟨wq.heap.size, 0, none⟩) 0 0) 0 [] rfl (owns_empty wq 92 3 _ (Nat.le_refl _)) (.slice (some ⟨g, 0, none⟩) j c') j ((d.take j).flatMap Ton.cells) rfl ((tons_take HOQ.out HD.out hj).mono (by (repeat (first | with_reducible exact Below.refl _ _ | with_reducible exact hbw | (with_reducible refine Below.setCell ?_ ?_ _; rotate_left; · first | exact Nat.le_refl _ | omega | (simp; done) | (simp; omega)) | (with_reducible refine Below.alloc ?_ ?_ _; rotate_left; · first | exact Nat.le_refl _ | omega | (simp; done) | (simp; omega)) | with_reducible refine below_drewN ?_ _ | with_reducible refine Below.drew ?_)))) lt1 (Ton.one _) (by omega) (by decide) (by simp) ?_)
            intro a1 cap1 w1 ho1 hg1 hb1
            try rw [Nat.zero_add, List.nil_append] at ho1
            have hbq1 : Below wq.heap.size wq w1 := Below.trans (by (repeat (first | with_reducible exact Below.refl _ _ | with_reducible exact hbw | (with_reducible refine Below.setCell ?_ ?_ _; rotate_left; · first | exact Nat.le_refl _ | omega | (simp; done) | (simp; omega)) | (with_reducible refine Below.alloc ?_ ?_ _; rotate_left; · first | exact Nat.le_refl _ | omega | (simp; done) | (simp; omega)) | with_reducible refine below_drewN ?_ _ | with_reducible refine Below.drew ?_))) hb1
            have hz1 := hbq1.size
            have hbo1 : Below wo.heap.size wo w1 := HQ.out.trans (hbq1.mono hzq)
            have u0 := cellB hbo1 HT.out.2
            have u1 := cellB hbo1 HT.out.3
            have u2 := cellB hbo1 HT.out.4
            have ul : b1 < w1.heap.size + 1 := by have := HT.out.1; omega
            have ul2 : b1 < w1.heap.size := by have := HT.out.1; omega
            have HO1 := Lib.hid ho1; have HB1 := Lib.hid hbo1
            clear ho1 hg1 hb1 hbq1 hbo1
            go_wp2_with (at_builtin; refine append_one_at rfl _ _ 27 rfl wq.heap.size 92 _ 3 24 Try.underlying27 info_Tone rfl (by decide) _ j _ rfl HO1.out [.int .i64 xs[k].note, .int .i64 xs[k].start, .int .i64 xs[k].len] rfl (by intro u hu; simp at hu; rcases hu with rfl | rfl | rfl <;> rfl) w1.heap.size rfl rfl (by omega) (by decide) (by omega) ?_)
            intro a2 cap2 w2 ho2 hg2 hb2 hat2
            have hz2 := hb2.size
            have hbo2 : Below wo.heap.size wo w2 := HB1.out.trans (hb2.mono hzq)
            have HO2 := Lib.hid ho2; have HB2 := Lib.hid hbo2
            clear ho2 hg2 hb2 hat2 hbo2 u0 u1 u2
            by_cases hjc : c' = j
            · have hkj : k = j := by omega
              have hsl : Sl w2 (.slice (some ⟨g, 0, none⟩) (k - j) 0) (k - j) ((d.drop j).flatMap Ton.cells) := by
                rw [List.drop_of_length_le (by rw [HD.out]; omega)]
                exact ⟨_, _, rfl, by omega, by simp [maxLen], fun i u hu => by simp at hu⟩
              have HSL := Lib.hid hsl; have HKJ := Lib.hid hkj; clear hsl hkj
              go_wp2_with (at_builtin; refine append_all rfl _ _ 27 rfl wq.heap.size 92 _ 3 24 Try.underlying27 info_Tone rfl (by decide) _ (j + 1) _ rfl HO2.out (.slice (some ⟨g, 0, none⟩) (k - j) 0) (k - j) ((d.drop j).flatMap Ton.cells) rfl HSL.out lt2 (Ton.one _) (by omega) (by decide) (by omega) ?_)
              intro a3 cap3 w3 ho3 hg3 hb3
              have ej : j + 1 + (k - j) = k + 1 := by omega
              rw [ej] at ho3
              rw [ej]
              obtain ⟨g3, rfl⟩ : ∃ g3, a3 = some ⟨g3, 0, none⟩ := by
                rcases ho3.2 with ⟨e, h0⟩ | ⟨g3, cap, cur, e, _⟩
                · omega
                · simp only [Value.slice.injEq] at e; exact ⟨g3, e.1⟩
              have hbo3 : Below wo.heap.size wo w3 := HB2.out.trans (hb3.mono hzq)
              have HO3 := Lib.hid ho3; have HB3 := Lib.hid hbo3
              clear ho3 hg3 hb3 hbo3
              go_wp2
              go_roundw
              case rel =>
                refine ⟨k + 1, d.take j ++ [xs[k]] ++ d.drop j, g3, cap3, by omega, by go_num, rfl, ?_, P1.out, P2.out, ?_, HBw.out.trans (HB3.out.mono hzr)⟩
                · rw [List.length_append, List.length_append, List.length_take, List.length_drop, HD.out, Nat.min_eq_left hj, List.length_singleton]; omega
                · have := owns_base (base' := w.heap.size) HO3.out (by omega)
                  rw [List.flatMap_append, List.flatMap_append, List.flatMap_singleton, List.append_assoc]
                  exact this
              case measure => simp [intOf] <;> omega
            · have hjc2 : ¬ j = c' := fun e => hjc e.symm
              have hjc3 : ¬ (c' : Int) = (j : Int) := by omega
              have hjc4 : ¬ (j : Int) = (c' : Int) := by omega
              go_wp2_with (at_builtin; refine append_all rfl _ _ 27 rfl wq.heap.size 92 _ 3 24 Try.underlying27 info_Tone rfl (by decide) _ (j + 1) _ rfl HO2.out (.slice (some ⟨g, j * 3, none⟩) (k - j) (c' - j)) (k - j) ((d.drop j).flatMap Ton.cells) rfl (tons_drop (owns_mono HO.out HB2.out) HD.out hj) lt2 (Ton.one _) (by omega) (by decide) (by omega) ?_)
              intro a3 cap3 w3 ho3 hg3 hb3
              have ej : j + 1 + (k - j) = k + 1 := by omega
              rw [ej] at ho3
              rw [ej]
              obtain ⟨g3, rfl⟩ : ∃ g3, a3 = some ⟨g3, 0, none⟩ := by
                rcases ho3.2 with ⟨e, h0⟩ | ⟨g3, cap, cur, e, _⟩
                · omega
                · simp only [Value.slice.injEq] at e; exact ⟨g3, e.1⟩
              have hbo3 : Below wo.heap.size wo w3 := HB2.out.trans (hb3.mono hzq)
              have HO3 := Lib.hid ho3; have HB3 := Lib.hid hbo3
              clear ho3 hg3 hb3 hbo3
              go_wp2
              go_roundw
              case rel =>
                refine ⟨k + 1, d.take j ++ [xs[k]] ++ d.drop j, g3, cap3, by omega, by go_num, rfl, ?_, P1.out, P2.out, ?_, HBw.out.trans (HB3.out.mono hzr)⟩
                · rw [List.length_append, List.length_append, List.length_take, List.length_drop, HD.out, Nat.min_eq_left hj, List.length_singleton]; omega
                · have := owns_base (base' := w.heap.size) HO3.out (by omega)
                  rw [List.flatMap_append, List.flatMap_append, List.flatMap_singleton, List.append_assoc]
                  exact this
              case measure => simp [intOf] <;> omega
        · have d0 : decide (0 < (j : Int)) = false := by simpa using hj0
          have hnb : ∀ (h : 0 < j) (h' : j - 1 < d.length), ¬ before xs[k] d[j - 1] := fun h _ => absurd h hj0
          have NB := Lib.hid hnb; clear hnb
          go_wp2_with fail
          go_quiet (fail)
          clear d0
          have hq' := hq.drewN nq
          obtain ⟨wq, hwq⟩ : ∃ wq : World, wq = wr.drewN nq := ⟨_, rfl⟩
          rw [← hwq] at hq' ⊢
          clear hwq hq
          obtain ⟨p1, p2⟩ := ins_done hlt (by rw [HD.out]; exact hj) HP.out HS.out HX.out NB.out
          have hbq : Below wo.heap.size wo wq := hq'.below _
          have hzq := hbq.size
          have hoq := owns_mono HO.out hbq
          have P1 := Lib.hid p1; have P2 := Lib.hid p2; have HQ := Lib.hid hbq; have HOQ := Lib.hid hoq; have HT := Lib.hid hT; have HBw := Lib.hid hb
          clear p1 p2 hbq hq' hoq hT hb
          have jc : (j : Int) ≤ (c' : Int) := by omega
          have jk : (j : Int) ≤ (k : Int) := by omega
          have jn : (0 : Int) ≤ (j : Int) := by omega
          have z1 : (j : Int).toNat = j := by omega
          have lt1 : ((d.take j).flatMap Ton.cells).length = j * 3 := by rw [Ton.len_cells, List.length_take, Nat.min_eq_left (by rw [HD.out]; exact hj)]
          have lt2 : ((d.drop j).flatMap Ton.cells).length = (k - j) * 3 := by rw [Ton.len_cells, List.length_drop, HD.out]
          go_wp2_with (at_builtin; refine append_all rfl _ _ 27 rfl wq.heap.size 92 _ 3 24 Try.underlying27 info_Tone rfl (by decide) (.slice (some ⟨wq.heap.size, 0, none⟩) 0 0) 0 [] rfl (owns_empty wq 92 3 _ (Nat.le_refl _)) (.slice (some ⟨g, 0, none⟩) j c') j ((d.take j).flatMap Ton.cells) rfl ((tons_take HOQ.out HD.out hj).mono (by (repeat (first | with_reducible exact Below.refl _ _ | with_reducible exact hbw | (with_reducible refine Below.setCell ?_ ?_ _; rotate_left; · first | exact Nat.le_refl _ | omega | (simp; done) | (simp; omega)) | (with_reducible refine Below.alloc ?_ ?_ _; rotate_left; · first | exact Nat.le_refl _ | omega | (simp; done) | (simp; omega)) | with_reducible refine below_drewN ?_ _ | with_reducible refine Below.drew ?_)))) lt1 (Ton.one _) (by omega) (by decide) (by simp) ?_)
          intro a1 cap1 w1 ho1 hg1 hb1
          try rw [Nat.zero_add, List.nil_append] at ho1
          have hbq1 : Below wq.heap.size wq w1 := Below.trans (by (repeat (first | with_reducible exact Below.refl _ _ | with_reducible exact hbw | (with_reducible refine Below.setCell ?_ ?_ _; rotate_left; · first | exact Nat.le_refl _ | omega | (simp; done) | (simp; omega)) | (with_reducible refine Below.alloc ?_ ?_ _; rotate_left; · first | exact Nat.le_refl _ | omega | (simp; done) | (simp; omega)) | with_reducible refine below_drewN ?_ _ | with_reducible refine Below.drew ?_))) hb1
          have hz1 := hbq1.size
          have hbo1 : Below wo.heap.size wo w1 := HQ.out.trans (hbq1.mono hzq)
          have u0 := cellB hbo1 HT.out.2
          have u1 := cellB hbo1 HT.out.3
          have u2 := cellB hbo1 HT.out.4
          have ul : b1 < w1.heap.size + 1 := by have := HT.out.1; omega
          have ul2 : b1 < w1.heap.size := by have := HT.out.1; omega
          have HO1 := Lib.hid ho1; have HB1 := Lib.hid hbo1
          clear ho1 hg1 hb1 hbq1 hbo1
          go_wp2_with (at_builtin; refine append_one_at rfl _ _ 27 rfl wq.heap.size 92 _ 3 24 Try.underlying27 info_Tone rfl (by decide) _ j _ rfl HO1.out [.int .i64 xs[k].note, .int .i64 xs[k].start, .int .i64 xs[k].len] rfl (by intro u hu; simp at hu; rcases hu with rfl | rfl | rfl <;> rfl) w1.heap.size rfl rfl (by omega) (by decide) (by omega) ?_)
          intro a2 cap2 w2 ho2 hg2 hb2 hat2
          have hz2 := hb2.size
          have hbo2 : Below wo.heap.size wo w2 := HB1.out.trans (hb2.mono hzq)
          have HO2 := Lib.hid ho2; have HB2 := Lib.hid hbo2
          clear ho2 hg2 hb2 hat2 hbo2 u0 u1 u2
          by_cases hjc : c' = j
          · have hkj : k = j := by omega
            have hsl : Sl w2 (.slice (some ⟨g, 0, none⟩) (k - j) 0) (k - j) ((d.drop j).flatMap Ton.cells) := by
              rw [List.drop_of_length_le (by rw [HD.out]; omega)]
              exact ⟨_, _, rfl, by omega, by simp [maxLen], fun i u hu => by simp at hu⟩
            have HSL := Lib.hid hsl; have HKJ := Lib.hid hkj; clear hsl hkj
            go_wp2_with (at_builtin; refine append_all rfl _ _ 27 rfl wq.heap.size 92 _ 3 24 Try.underlying27 info_Tone rfl (by decide) _ (j + 1) _ rfl HO2.out (.slice (some ⟨g, 0, none⟩) (k - j) 0) (k - j) ((d.drop j).flatMap Ton.cells) rfl HSL.out lt2 (Ton.one _) (by omega) (by decide) (by omega) ?_)
            intro a3 cap3 w3 ho3 hg3 hb3
            have ej : j + 1 + (k - j) = k + 1 := by omega
            rw [ej] at ho3
            rw [ej]
            obtain ⟨g3, rfl⟩ : ∃ g3, a3 = some ⟨g3, 0, none⟩ := by
              rcases ho3.2 with ⟨e, h0⟩ | ⟨g3, cap, cur, e, _⟩
              · omega
              · simp only [Value.slice.injEq] at e; exact ⟨g3, e.1⟩
            have hbo3 : Below wo.heap.size wo w3 := HB2.out.trans (hb3.mono hzq)
            have HO3 := Lib.hid ho3; have HB3 := Lib.hid hbo3
            clear ho3 hg3 hb3 hbo3
            go_wp2
            go_roundw
            case rel =>
              refine ⟨k + 1, d.take j ++ [xs[k]] ++ d.drop j, g3, cap3, by omega, by go_num, rfl, ?_, P1.out, P2.out, ?_, HBw.out.trans (HB3.out.mono hzr)⟩
              · rw [List.length_append, List.length_append, List.length_take, List.length_drop, HD.out, Nat.min_eq_left hj, List.length_singleton]; omega
              · have := owns_base (base' := w.heap.size) HO3.out (by omega)
                rw [List.flatMap_append, List.flatMap_append, List.flatMap_singleton, List.append_assoc]
                exact this
            case measure => simp [intOf] <;> omega
          · have hjc2 : ¬ j = c' := fun e => hjc e.symm
            have hjc3 : ¬ (c' : Int) = (j : Int) := by omega
            have hjc4 : ¬ (j : Int) = (c' : Int) := by omega
            go_wp2_with (at_builtin; refine append_all rfl _ _ 27 rfl wq.heap.size 92 _ 3 24 Try.underlying27 info_Tone rfl (by decide) _ (j + 1) _ rfl HO2.out (.slice (some ⟨g, j * 3, none⟩) (k - j) (c' - j)) (k - j) ((d.drop j).flatMap Ton.cells) rfl (tons_drop (owns_mono HO.out HB2.out) HD.out hj) lt2 (Ton.one _) (by omega) (by decide) (by omega) ?_)
            intro a3 cap3 w3 ho3 hg3 hb3
            have ej : j + 1 + (k - j) = k + 1 := by omega
            rw [ej] at ho3
            rw [ej]
            obtain ⟨g3, rfl⟩ : ∃ g3, a3 = some ⟨g3, 0, none⟩ := by
              rcases ho3.2 with ⟨e, h0⟩ | ⟨g3, cap, cur, e, _⟩
              · omega
              · simp only [Value.slice.injEq] at e; exact ⟨g3, e.1⟩
            have hbo3 : Below wo.heap.size wo w3 := HB2.out.trans (hb3.mono hzq)
            have HO3 := Lib.hid ho3; have HB3 := Lib.hid hbo3
            clear ho3 hg3 hb3 hbo3
            go_wp2
            go_roundw
            case rel =>
              refine ⟨k + 1, d.take j ++ [xs[k]] ++ d.drop j, g3, cap3, by omega, by go_num, rfl, ?_, P1.out, P2.out, ?_, HBw.out.trans (HB3.out.mono hzr)⟩
              · rw [List.length_append, List.length_append, List.length_take, List.length_drop, HD.out, Nat.min_eq_left hj, List.length_singleton]; omega
              · have := owns_base (base' := w.heap.size) HO3.out (by omega)
                rw [List.flatMap_append, List.flatMap_append, List.flatMap_singleton, List.append_assoc]
                exact this
            case measure => simp [intOf] <;> omega
    · obtain rfl : k = xs.length := by omega
      go_wp2
      go_ret
      have hp := HP.out
      rw [List.take_length] at hp
      exact ⟨_, d, rfl, hp, HS.out, OwnRow.mk' HO.out, hb⟩

end Go.Proofs.Ytemmnjokojgjaaa
/- The reference's draw of a tune: it is right. Contract of l25Draw. -/
set_option linter.unusedSimpArgs false
set_option linter.unnecessarySimpa false
set_option linter.unusedVariables false
set_option maxRecDepth 100000
namespace Go.Proofs.Ytemmnjokojgjaaa
open Go.RowKit

def song : ByteArray := ⟨#[115, 111, 110, 103]⟩
def round : ByteArray := ⟨#[114, 111, 117, 110, 100]⟩
def hymn : ByteArray := ⟨#[104, 121, 109, 110]⟩
theorem draw_name {s : ByteArray} (h : s ∈ [song, round, hymn]) : NameOk s ∧ s.size ≤ 10 := by
  simp only [List.mem_cons, List.not_mem_nil, or_false] at h
  rcases h with rfl | rfl | rfl <;> decide +kernel
/-- Tones that can be drawn. -/
def drawTon (y : Ton) : Prop := (60 ≤ y.note ∧ y.note ≤ 83) ∧ (0 ≤ y.start ∧ y.start ≤ 1000) ∧ (1 ≤ y.len ∧ y.len ≤ 40)
theorem draw_ok {y : Ton} (h : drawTon y) : TonOk y := by
  obtain ⟨h1, h2, h3⟩ := h
  exact ⟨by unfold noteOk; omega, by omega, by omega⟩
/-- Rising tones, the last one known. -/
def Stc' (d : List Ton) : Prop := d.Pairwise before
theorem stc_add {d : List Ton} {y : Ton} (h : Stc' d) (hl : ∀ (h0 : 0 < d.length), before (d[d.length - 1]'(by omega)) y) : Stc' (d ++ [y]) := by
  unfold Stc' at *
  rw [List.pairwise_append]
  refine ⟨h, by simp, fun a ha b hb => ?_⟩
  rw [List.mem_singleton.1 hb]
  obtain ⟨i, hi, rfl⟩ := List.getElem_of_mem ha
  have h0 := hl (by omega)
  by_cases e : i = d.length - 1
  · subst e; exact h0
  · exact before_trans (List.pairwise_iff_getElem.1 h i (d.length - 1) hi (by omega) (by omega)) h0
theorem draw_valid {name : ByteArray} {d : List Ton} (hn : NameOk name) (hl : d.length ≤ 9) (h : Stc' d) (ho : ∀ y ∈ d, drawTon y) : validTunB ⟨name, d⟩ = true := by
  refine validTunB_iff.2 ⟨hn, by simp only; omega, fun k hk hk2 => ⟨draw_ok (ho _ (List.getElem_mem hk)), fun h0 => ?_⟩⟩
  exact List.pairwise_iff_getElem.1 h (k - 1) k (by simp only at hk; omega) hk (by omega)

/-- A tune that can be drawn. -/
def drawTun (x : TunD) : Prop := validTunB x = true ∧ x.tones.length ≤ 9 ∧ ∀ y ∈ x.tones, drawTon y

set_option maxHeartbeats 4000000 in
theorem l25Draw_any (w0 : World) (p n : Nat) (cv : Value) (bs : List Int) (w : World) (h0 : Byts w0 cv bs) (ok : okByts bs) (h : Src w0 w p cv n) (hn : n ≤ 800000000) :
    Calls Try.prog 94 #[.pointer (some ⟨p, 0, none⟩)] w fun e w' => ∃ (v' : Value) (x : TunD) (m : Nat), e = .returned v' ∧ OwnTun w.heap.size w'.heap.size w' v' x ∧ drawTun x ∧ n ≤ m ∧ m ≤ n + 100 ∧ Src w0 w' p cv m ∧ Touch p (p + 1) w w' := by
  have HS := Lib.hid h
  have hlt := h.lt
  have hlow := h.low
  have hlow' : w0.heap.size ≤ w.heap.size := by omega
  have hpw := h.lt
  clear h
  go_enter Try.func94, Try.ntmps94
  go_wp2_with fail
  have SL := Lib.hid (sl_lit (w.alloc (.cells #[.string ⟨#[]⟩, .slice none 0 0] 29)) [.string song, .string round, .string hymn] 9 3 (w.heap.size + 1) (by simp) (by simp [maxLen]))
  refine (text_any w0 p n cv bs _ [song, round, hymn] _ h0 ok (HS.out.mono (by (repeat (first | with_reducible exact Below.refl _ _ | with_reducible exact hbw | (with_reducible refine Below.setCell ?_ ?_ _; rotate_left; · first | exact Nat.le_refl _ | omega | (simp; done) | (simp; omega)) | (with_reducible refine Below.alloc ?_ ?_ _; rotate_left; · first | exact Nat.le_refl _ | omega | (simp; done) | (simp; omega)) | with_reducible refine below_drewN ?_ _ | with_reducible refine Below.drew ?_)))) (by omega) SL.out (by simp) (by simp) (fun w' t => SL.out.touchQ t (.inr (by omega)))).mono ?_
  rintro e w1 ⟨name, m1, rfl, hmem, m10, m11, hs1, ht1⟩
  obtain ⟨hname, hnsz⟩ := draw_name hmem
  have hq := hs1.lt
  have r0 : w1.cell? ⟨w.heap.size, 0, none⟩ = some (.string ⟨#[]⟩) := cellT ht1 (by simp [go_sem]) (.inr (by simp only; omega))
  have r1 : w1.cell? ⟨w.heap.size, 1, none⟩ = some (.slice none 0 0) := cellT ht1 (by simp [go_sem]) (.inr (by simp only; omega))
  have g0 : w1.frozen? ⟨w.heap.size, 0, none⟩ = false := froz_touch ht1 (by simp <;> omega) (.inr (by omega)) (by simp [go_sem])
  have g1 : w1.frozen? ⟨w.heap.size, 1, none⟩ = false := froz_touch ht1 (by simp <;> omega) (.inr (by omega)) (by simp [go_sem])
  have hz1 : w.heap.size + 2 ≤ w1.heap.size := by have := ht1.size; simp at this; omega
  have T1 := Lib.hid (show Touch p (p + 1) w w1 from Touch.trans (((Touch.refl _ _ _).alloc _).alloc _) ht1)
  have HN := Lib.hid hname; have HNZ := Lib.hid hnsz; have HS1 := Lib.hid hs1
  clear ht1 hmem hname hs1 SL
  go_wp2_with fail
  refine (pick_any w0 p m1 cv bs 20 _ h0 ok (HS1.out.mono (by (repeat (first | with_reducible exact Below.refl _ _ | with_reducible exact hbw | (with_reducible refine Below.setCell ?_ ?_ _; rotate_left; · first | exact Nat.le_refl _ | omega | (simp; done) | (simp; omega)) | (with_reducible refine Below.alloc ?_ ?_ _; rotate_left; · first | exact Nat.le_refl _ | omega | (simp; done) | (simp; omega)) | with_reducible refine below_drewN ?_ _ | with_reducible refine Below.drew ?_)))) (by omega) (by omega) (by omega)).mono ?_
  rintro e w2 ⟨st, m2, rfl, st0, st1, m20, m21, hs2, ht2⟩
  have y0 : w2.cell? ⟨w1.heap.size, 0, none⟩ = some (.string name) := cellT ht2 (by simp [go_sem]) (.inr (by simp only; omega))
  have y1 : w2.cell? ⟨w1.heap.size, 1, none⟩ = some (.slice none 0 0) := cellT ht2 (by simp [go_sem]) (.inr (by simp only; omega))
  have yf : w2.frozen? ⟨w1.heap.size, 1, none⟩ = false := froz_touch ht2 (by simp <;> omega) (.inr (by omega)) (by simp [go_sem])
  have r0 : w2.cell? ⟨w.heap.size, 0, none⟩ = some (.string ⟨#[]⟩) := cellT ht2 (cellB (belowA _ _) r0) (.inr (by simp only; omega))
  have r1 : w2.cell? ⟨w.heap.size, 1, none⟩ = some (.slice none 0 0) := cellT ht2 (cellB (belowA _ _) r1) (.inr (by simp only; omega))
  have g0 : w2.frozen? ⟨w.heap.size, 0, none⟩ = false := froz_touch ht2 (by simp <;> omega) (.inr (by omega)) (frozenL (belowA _ _) (by simp only; omega) g0)
  have g1 : w2.frozen? ⟨w.heap.size, 1, none⟩ = false := froz_touch ht2 (by simp <;> omega) (.inr (by omega)) (frozenL (belowA _ _) (by simp only; omega) g1)
  have hz2 : w1.heap.size + 1 ≤ w2.heap.size := by have := ht2.size; simpa using this
  have T2 := Lib.hid (show Touch p (p + 1) w w2 from Touch.trans (T1.out.alloc _) ht2)
  have HS2 := Lib.hid hs2
  clear ht2 hs2
  go_wp2_with fail
  refine (pick_any w0 p m2 cv bs 10 _ h0 ok HS2.out (by omega) (by omega) (by omega)).mono ?_
  rintro e w3 ⟨kk, m3, rfl, kk0, kk1, m30, m31, hs3, ht3⟩
  have y0 := cellT ht3 y0 (.inr (by simp only; omega))
  have y1 := cellT ht3 y1 (.inr (by simp only; omega))
  have yf := froz_touch ht3 (by omega) (.inr (by omega)) yf
  have r0 := cellT ht3 r0 (.inr (by simp only; omega))
  have r1 := cellT ht3 r1 (.inr (by simp only; omega))
  have g0 := froz_touch ht3 (by omega) (.inr (by omega)) g0
  have g1 := froz_touch ht3 (by omega) (.inr (by omega)) g1
  have hz3 : w1.heap.size + 1 ≤ w3.heap.size := by have := ht3.size; omega
  have T3 := Lib.hid (T2.out.trans ht3)
  have HS3 := Lib.hid hs3
  obtain ⟨q, hqq⟩ : ∃ q, q = w1.heap.size := ⟨_, rfl⟩
  rw [← hqq] at y0 y1 yf hz3 hz1 hq
  have HQ := Lib.hid hqq
  have hpq : p < q := by omega
  clear ht3 hs3 T1 T2 HS1 HS2 hz2
  go_wp2_with fail
  rw [← HQ.out]
  have R0 := Lib.hid r0; have R1 := Lib.hid r1; have G0 := Lib.hid g0; have G1 := Lib.hid g1
  clear r0 r1 g0 g1 HQ hqq
  go_loopw [4, 5, 6] (fun s k _ wr => ∃ (j m : Nat) (sv kv : Int) (d : List Ton) (a' : Option Addr) (c' : Nat), s = .int .i64 sv ∧ k = .int .i64 kv ∧ 0 ≤ kv ∧ (j : Int) + kv ≤ 9 ∧ 0 ≤ sv ∧ sv ≤ 19 + 29 * (j : Int) ∧ d.length = j ∧ (∀ y ∈ d, drawTon y) ∧ n ≤ m ∧ m ≤ n + 6 + 6 * j ∧ Src w0 wr p cv m ∧
    wr.cell? ⟨q, 0, none⟩ = some (.string name) ∧ wr.cell? ⟨q, 1, none⟩ = some (.slice a' j c') ∧ wr.frozen? ⟨q, 1, none⟩ = false ∧ wr.ownsRow (q + 1) 92 3 (.slice a' j c') j (d.flatMap Ton.cells) ∧ Touch p (p + 1) w wr ∧ q + 1 ≤ wr.heap.size ∧
    wr.cell? ⟨w.heap.size, 0, none⟩ = some (.string ⟨#[]⟩) ∧ wr.cell? ⟨w.heap.size, 1, none⟩ = some (.slice none 0 0) ∧ wr.frozen? ⟨w.heap.size, 0, none⟩ = false ∧ wr.frozen? ⟨w.heap.size, 1, none⟩ = false) (fun _ k _ _ => (intOf k).toNat)
  case atStart => exact ⟨0, m3, st, kk, [], none, 0, rfl, rfl, kk0, by omega, st0, by omega, rfl, (fun y hy => by cases hy), by omega, by omega, HS3.out, y0, y1, yf, by simpa using owns_nil w3 92 3 _, T3.out, hz3, R0.out, R1.out, G0.out, G1.out⟩
  case round =>
    clear y0 y1 yf R0 R1 G0 G1 HS3 T3
    obtain ⟨j, m, sv, kv, d, a', c', rfl, rfl, kv0, kv1, sv0, sv1, hd, hdr, hm0, hm1, hs, y0, y1, yf, ho, ht, hzr, r0, r1, g0, g1⟩ := hrel
    have HD := Lib.hid hd; have HDR := Lib.hid hdr; have HSr := Lib.hid hs; have HO := Lib.hid ho; have HT := Lib.hid ht
    clear hdr hs ho ht hd
    by_cases hk : 0 < kv
    · have dk : decide (0 < kv) = true := by simpa using hk
      go_wp2_with fail
      refine (pick_any w0 p m cv bs 24 _ h0 ok HSr.out (by omega) (by omega) (by omega)).mono ?_
      rintro e w4 ⟨nn, m4, rfl, nn0, nn1, m40, m41, hs4, ht4⟩
      have wn : IntKind.i64.wrap (60 + nn) = 60 + nn := IntWalk.i64_in _ (by omega)
      have HS4 := Lib.hid hs4; have HT4 := Lib.hid ht4
      clear hs4 ht4
      go_wp2_with fail
      refine (pick_any w0 p m4 cv bs 40 _ h0 ok HS4.out (by omega) (by omega) (by omega)).mono ?_
      rintro e w5 ⟨ll, m5, rfl, ll0, ll1, m50, m51, hs5, ht5⟩
      have wl : IntKind.i64.wrap (1 + ll) = 1 + ll := IntWalk.i64_in _ (by omega)
      have HT5 := Lib.hid (HT4.out.trans ht5)
      have HS5 := Lib.hid hs5
      have hz5 : q + 1 ≤ w5.heap.size := by have := HT5.out.size; omega
      have y0 := cellT HT5.out y0 (.inr (by simp only; omega))
      have y1 := cellT HT5.out y1 (.inr (by simp only; omega))
      have yf := froz_touch HT5.out (by omega) (.inr (by omega)) yf
      have r0 := cellT HT5.out r0 (.inr (by simp only; omega))
      have r1 := cellT HT5.out r1 (.inr (by simp only; omega))
      have g0 := froz_touch HT5.out (by omega) (.inr (by omega)) g0
      have g1 := froz_touch HT5.out (by omega) (.inr (by omega)) g1
      have HO5 := Lib.hid (owns_touch HO.out HT5.out (by omega))
      have R0 := Lib.hid r0; have R1 := Lib.hid r1; have G0 := Lib.hid g0; have G1 := Lib.hid g1
      have q5 : q < w5.heap.size := by omega
      clear ht5 hs5 r0 r1 g0 g1 HO HSr
      go_wp2_with (at_builtin; refine append_one_at rfl _ _ 27 rfl (q + 1) 92 _ 3 24 Try.underlying27 info_Tone rfl (by decide) _ j _ rfl (owns_mono HO5.out (by (repeat (first | with_reducible exact Below.refl _ _ | with_reducible exact hbw | (with_reducible refine Below.setCell ?_ ?_ _; rotate_left; · first | exact Nat.le_refl _ | omega | (simp; done) | (simp; omega)) | (with_reducible refine Below.alloc ?_ ?_ _; rotate_left; · first | exact Nat.le_refl _ | omega | (simp; done) | (simp; omega)) | with_reducible refine below_drewN ?_ _ | with_reducible refine Below.drew ?_)))) [.int .i64 (60 + nn), .int .i64 sv, .int .i64 (1 + ll)] rfl (by simp [Value.oneCell']) (w5.heap.size + 1) (by simp) rfl (by omega) (by decide) (by simp; omega) ?_)
      intro a6 c6 w6 ho6 hg6 hb6 _
      have hst : Below (q + 1) w5 w6 := Below.trans (Below.mono (B := w5.heap.size) (by (repeat (first | with_reducible exact Below.refl _ _ | with_reducible exact hbw | (with_reducible refine Below.setCell ?_ ?_ _; rotate_left; · first | exact Nat.le_refl _ | omega | (simp; done) | (simp; omega)) | (with_reducible refine Below.alloc ?_ ?_ _; rotate_left; · first | exact Nat.le_refl _ | omega | (simp; done) | (simp; omega)) | with_reducible refine below_drewN ?_ _ | with_reducible refine Below.drew ?_))) hz5) hb6
      have hz6 := hst.size
      have q6 : q < w6.heap.size := by omega
      have y0 := cellL hst (by simp) y0
      have y1 := cellL hst (by simp) y1
      have yf := frozenL hst (by simp) yf
      have htq : Touch q (q + 1) w6 (w6.setCell ⟨q, 1, none⟩ (.slice a6 (j + 1) c6)) := (Touch.refl _ _ w6).setCell (p := ⟨q, 1, none⟩) (by simp) _
      have z0 : (w6.setCell ⟨q, 1, none⟩ (.slice a6 (j + 1) c6)).cell? ⟨q, 0, none⟩ = some (.string name) := by simp [go_sem, y0, q6, yf]
      have z1 : (w6.setCell ⟨q, 1, none⟩ (.slice a6 (j + 1) c6)).cell? ⟨q, 1, none⟩ = some (.slice a6 (j + 1) c6) := by simp [go_sem, y1, q6, yf]
      have zf : (w6.setCell ⟨q, 1, none⟩ (.slice a6 (j + 1) c6)).frozen? ⟨q, 1, none⟩ = false := by simp [go_sem, q6, yf]
      have hT7 := Lib.hid (((HT.out.trans HT5.out).step hst (by omega)).setNew (p := ⟨q, 1, none⟩) (by simp only; omega) (.slice a6 (j + 1) c6))
      have hs7 := Lib.hid ((HS5.out.step (B := q + 1) (by omega) hst).touch htq (.inl hpq) (by omega))
      have ho7 := Lib.hid (ownsRow_setCell_below (a := ⟨q, 1, none⟩) ho6 (by simp) (.slice a6 (j + 1) c6))
      have R0 := Lib.hid (cellT htq (cellL hst (by simp only; omega) R0.out) (.inl (by simp only; omega)))
      have R1 := Lib.hid (cellT htq (cellL hst (by simp only; omega) R1.out) (.inl (by simp only; omega)))
      have G0 := Lib.hid (froz_touch htq (by omega) (.inl (by omega)) (frozenL hst (by simp only; omega) G0.out))
      have G1 := Lib.hid (froz_touch htq (by omega) (.inl (by omega)) (frozenL hst (by simp only; omega) G1.out))
      have z0 := Lib.hid z0; have z1 := Lib.hid z1; have zf := Lib.hid zf
      have hz7 : (w6.setCell ⟨q, 1, none⟩ (.slice a6 (j + 1) c6)).heap.size = w6.heap.size := by simp [World.setCell]
      have HZ7 := Lib.hid hz7
      clear htq hst ho6 hg6 hb6 hz7 HS5 HO5 HT HT5 HT4 HS4
      go_wp2_with fail
      refine (pick_any w0 p m5 cv bs 30 _ h0 ok hs7.out (by omega) (by omega) (by omega)).mono ?_
      rintro e w8 ⟨rr, m8, rfl, rr0, rr1, m80, m81, hs8, ht8⟩
      have wr' : IntKind.i64.wrap (sv + rr) = sv + rr := IntWalk.i64_in _ (by omega)
      have wk' : IntKind.i64.wrap (kv - 1) = kv - 1 := IntWalk.i64_in _ (by omega)
      have hp7 : p < (w6.setCell ⟨q, 1, none⟩ (.slice a6 (j + 1) c6)).heap.size := by rw [HZ7.out]; omega
      have hq7 : q < (w6.setCell ⟨q, 1, none⟩ (.slice a6 (j + 1) c6)).heap.size := by rw [HZ7.out]; omega
      have hw7 : w.heap.size < (w6.setCell ⟨q, 1, none⟩ (.slice a6 (j + 1) c6)).heap.size := by rw [HZ7.out]; omega
      have hz8 := ht8.size
      rw [HZ7.out] at hz8
      have z0 := Lib.hid (cellT ht8 z0.out (.inr (by simp only; omega)))
      have z1 := Lib.hid (cellT ht8 z1.out (.inr (by simp only; omega)))
      have zf := Lib.hid (froz_touch ht8 hq7 (.inr (by omega)) zf.out)
      have R0 := Lib.hid (cellT ht8 R0.out (.inr (by simp only; omega)))
      have R1 := Lib.hid (cellT ht8 R1.out (.inr (by simp only; omega)))
      have G0 := Lib.hid (froz_touch ht8 hw7 (.inr (by omega)) G0.out)
      have G1 := Lib.hid (froz_touch ht8 hw7 (.inr (by omega)) G1.out)
      have ho8 := Lib.hid (owns_touch ho7.out ht8 (by omega))
      have HT8 := Lib.hid (hT7.out.trans ht8)
      have HS8 := Lib.hid hs8
      clear ht8 hs8 hT7 ho7 y0 y1 yf hs7
      go_wp2
      go_roundw
      case rel =>
        refine ⟨j + 1, m8, sv + rr, kv - 1, d ++ [⟨60 + nn, sv, 1 + ll⟩], a6, c6, rfl, rfl, by omega, by omega, by omega, by omega, by simp [HD.out], fun y hy => ?_, by omega, by omega, HS8.out, z0.out, z1.out, zf.out, by simpa [Ton.cells] using ho8.out, HT8.out, by omega, R0.out, R1.out, G0.out, G1.out⟩
        rcases List.mem_append.1 hy with h | h
        · exact HDR.out y h
        · rw [List.mem_singleton.1 h]; exact ⟨by simp only; omega, by simp only; omega, by simp only; omega⟩
      case measure => simp [intOf]; omega
    · have dk : decide (0 < kv) = false := by simpa using hk
      have hd := HD.out
      subst hd
      have HTO := Lib.hid (show Tons wr (.slice a' d.length c') d from Tons.of_owns HO.out)
      clear HD
      go_wp2_with fail
      refine (l25Sorted_any _ d _ HTO.out (by omega)).mono ?_
      rintro e w4 ⟨v4, dd, rfl, hp4, hs4, ho4, hb4⟩
      obtain ⟨a4, cap4, rfl⟩ := ho4.form
      have hl4 := hp4.length_eq
      rw [← hl4] at ho4 ⊢
      have hz4 := hb4.size
      have q4 : q < w4.heap.size := by omega
      have y0 := cellB hb4 y0
      have y1 := cellB hb4 y1
      have yf := frozenL hb4 (by simp only; omega) yf
      have htq : Touch q (q + 1) w4 (w4.setCell ⟨q, 1, none⟩ (.slice a4 dd.length cap4)) := (Touch.refl _ _ w4).setCell (p := ⟨q, 1, none⟩) (by simp) _
      have z0 := Lib.hid (show (w4.setCell ⟨q, 1, none⟩ (.slice a4 dd.length cap4)).cell? ⟨q, 0, none⟩ = some (.string name) by simp [go_sem, y0, q4, yf])
      have z1 := Lib.hid (show (w4.setCell ⟨q, 1, none⟩ (.slice a4 dd.length cap4)).cell? ⟨q, 1, none⟩ = some (.slice a4 dd.length cap4) by simp [go_sem, y1, q4, yf])
      have R0 := Lib.hid (cellT htq (cellB hb4 r0) (.inl (by simp only; omega)))
      have R1 := Lib.hid (cellT htq (cellB hb4 r1) (.inl (by simp only; omega)))
      have G0 := Lib.hid (froz_touch htq (by omega) (.inl (by omega)) (frozenL hb4 (by simp only; omega) g0))
      have G1 := Lib.hid (froz_touch htq (by omega) (.inl (by omega)) (frozenL hb4 (by simp only; omega) g1))
      have HT5 := Lib.hid ((HT.out.step hb4 (by omega)).setNew (p := ⟨q, 1, none⟩) (by simp only; omega) (.slice a4 dd.length cap4))
      have HS5 := Lib.hid ((HSr.out.step (B := wr.heap.size) (by omega) hb4).touch htq (.inl hpq) (by omega))
      have HTO5 := Lib.hid (Tons.of_owns (ho4.setCell (p := ⟨q, 1, none⟩) (by simp only; omega) (.slice a4 dd.length cap4)).1)
      have HDD := Lib.hid (show ∀ y ∈ dd, drawTon y from fun y hy => HDR.out y (hp4.mem_iff.1 hy))
      have hd9 : dd.length ≤ 9 := by omega
      have h45 : (w4.setCell ⟨q, 1, none⟩ (.slice a4 dd.length cap4)).heap.size = w4.heap.size := by simp [World.setCell]
      have H45 := Lib.hid h45
      clear htq r0 r1 g0 g1 HTO HO HT HSr hb4 hp4 hs4 ho4 HDR hl4 h45
      go_wp2_with fail
      generalize w4.setCell ⟨q, 1, none⟩ (.slice a4 dd.length cap4) = w5 at z0 z1 R0 R1 G0 G1 HT5 HS5 HTO5 H45 ⊢
      rw [← H45.out]
      have hz5 : q < w5.heap.size := by rw [H45.out]; exact q4
      clear y0 y1 yf H45 hz4 q4 dk
      go_loopw [8, 9] (fun i _ wq => ∃ (k nn : Nat) (o : List Ton) (a7 : Option Addr) (c7 : Nat), k ≤ dd.length ∧ i = .int .i64 (k : Int) ∧ o.length = nn ∧ nn ≤ k ∧ Stc' o ∧ (∀ y ∈ o, drawTon y) ∧ wq.ownsRow (w5.heap.size + 1) 92 3 (.slice a7 nn c7) nn (o.flatMap Ton.cells) ∧ Below w5.heap.size w5 wq ∧ w5.heap.size + 1 ≤ wq.heap.size ∧ wq.cell? ⟨w5.heap.size, 0, none⟩ = some (.string name) ∧ wq.cell? ⟨w5.heap.size, 1, none⟩ = some (.slice a7 nn c7) ∧ wq.frozen? ⟨w5.heap.size, 1, none⟩ = false) (fun i _ _ => dd.length - (intOf i).toNat)
      case atStart => exact ⟨0, 0, [], none, 0, Nat.zero_le _, by go_num, rfl, Nat.le_refl _, List.Pairwise.nil, (fun y hy => by cases hy), by simpa using owns_nil _ _ _ _, by (repeat (first | with_reducible exact Below.refl _ _ | with_reducible exact hbw | (with_reducible refine Below.setCell ?_ ?_ _; rotate_left; · first | exact Nat.le_refl _ | omega | (simp; done) | (simp; omega)) | (with_reducible refine Below.alloc ?_ ?_ _; rotate_left; · first | exact Nat.le_refl _ | omega | (simp; done) | (simp; omega)) | with_reducible refine below_drewN ?_ _ | with_reducible refine Below.drew ?_)), by simp, by simp [go_sem], by simp [go_sem], by simp [go_sem]⟩
      case round =>
        obtain ⟨k, nn, o, a7, c7, hk7, rfl, hol, hnk, hst, hdo, hor, hb, hz, x0, x1, xf⟩ := hrel
        have z0 := Lib.hid (cellB hb z0.out)
        have z1 := cellB hb z1.out
        have HOL := Lib.hid hol; have HST := Lib.hid hst; have HDO := Lib.hid hdo; have HOR := Lib.hid hor; have HB := Lib.hid hb
        clear hol hst hdo hor
        by_cases hlt : k < dd.length
        · obtain ⟨b1, o1, rfl, hT⟩ := TonIn.of (HTO5.out.mono hb) hlt
          have hTb := hT.1
          have hT1 : b1 < w5.heap.size := by
            obtain ⟨b2, o2, e2, hT2⟩ := TonIn.of HTO5.out hlt
            simp only [Option.some.injEq, Addr.mk.injEq, and_true] at e2
            obtain ⟨rfl, rfl⟩ := e2
            exact hT2.1
          clear hb
          have HTk := Lib.hid hT
          by_cases hn0 : nn = 0
          · have d0 : ((nn : Int) == 0) = true := by simpa using hn0
            have STN := Lib.hid (show Stc' (o ++ [dd[k]]) from stc_add HST.out (fun h => by have := HOL.out; omega))
            clear hT hn0
            go_wp2_with fail
            go_quiet (fail)
            clear d0
            skip
            obtain ⟨wd, hwd⟩ : ∃ wd : World, wd = wr.drewN nq := ⟨_, rfl⟩
            have hq : Q wr wd := by rw [hwd]; exact (Q.refl _).drewN nq
            rw [← hwd]
            clear hwd
            have hbq : Below wr.heap.size wr wd := hq.below _
            have hzq := hbq.size
            have z0 := Lib.hid (cellB hbq z0.out)
            have z1 := cellB hbq z1
            have x0 := cellB hbq x0
            have x1 := cellB hbq x1
            have xf := frozenL hbq (by simp only; omega) xf
            have HOR := Lib.hid (owns_mono HOR.out hbq)
            have HB := Lib.hid (HB.out.trans (hbq.mono (by omega)))
            obtain ⟨t0, t1, t2, t3⟩ : TonIn wd b1 (o1 + k * 3) dd[k] := ⟨by rw [hq.heap]; exact HTk.out.1, (hq.cell _).trans HTk.out.2, (hq.cell _).trans HTk.out.3, (hq.cell _).trans HTk.out.4⟩
            have hz : w5.heap.size + 1 ≤ wd.heap.size := by omega
            clear hq hbq hzq HTk hTb
            have l1 : b1 < wd.heap.size + 1 := by omega
            have l2 : w5.heap.size < wd.heap.size := by omega
            have l3 : w5.heap.size < wd.heap.size + 1 := by omega
            have l4 : q < wd.heap.size := by omega
            have l5 : q < wd.heap.size + 1 := by omega
            have n0 : ∀ o y, (ext wd.drew none y).cell? ⟨w5.heap.size, o, none⟩ = wd.cell? ⟨w5.heap.size, o, none⟩ := fun o y => cell?_ext (w := wd.drew) (by simpa using l2) (by simp)
            have n1 : ∀ o x, (extT wd.drew w5.heap.size wd.heap.size x).cell? ⟨q, o, none⟩ = wd.cell? ⟨q, o, none⟩ := fun o x => cell?_extT_lo (w := wd.drew) (by simpa using l4) hz5
            have n2 : ∀ o x, (extT wd.drew w5.heap.size wd.heap.size x).cell? ⟨b1, o, none⟩ = wd.cell? ⟨b1, o, none⟩ := fun o x => cell?_extT_lo (w := wd.drew) (by simp; omega) hT1
            go_wp2_with fail
            refine wp_region_ord3 [(0, 1), (1, 3), (2, 1), (3, 1), (4, 1), (5, 1), (6, 1), (7, 4), (8, 0), (9, 1), (10, 0)] [7, 8, 10] [8, 10] (w5.heap.size) (wd.heap.size) (by kernel_rfl) (by kernel_rfl) ?_
            (repeat ((first | with_reducible refine wpOrd3_soft (fun K hK => ?_) | with_reducible refine wpOrd3_pre (fun K hK => ?_) | with_reducible refine wpOrd3_late (fun K hK => ?_)); simp only [List.getElem?_toArray, List.getElem?_cons_zero, List.getElem?_cons_succ]; first | (go_simp; refine hK _ ?_) | (simp only [undef]; go_simp; refine hK _ ?_); clear hK K))
            ((first | with_reducible refine wpOrd3_hard ?_ | with_reducible refine wpOrd3_new ?_); simp only [List.getElem?_toArray, List.getElem?_cons_zero, List.getElem?_cons_succ])
            go_wp2_with fail
            refine And.intro (grown_row' (belowA _ _)) ?_
            (repeat ((first | with_reducible refine wpOrd3_soft (fun K hK => ?_) | with_reducible refine wpOrd3_pre (fun K hK => ?_) | with_reducible refine wpOrd3_late (fun K hK => ?_)); simp only [List.getElem?_toArray, List.getElem?_cons_zero, List.getElem?_cons_succ]; first | (go_simp; refine hK _ ?_) | (simp only [undef]; go_simp; refine hK _ ?_); clear hK K))
            ((first | with_reducible refine wpOrd3_hard ?_ | with_reducible refine wpOrd3_new ?_); simp only [List.getElem?_toArray, List.getElem?_cons_zero, List.getElem?_cons_succ])
            refine append_one_atD rfl _ _ 27 rfl (w5.heap.size + 1) 92 _ 3 24 Try.underlying27 info_Tone rfl (by decide) _ nn _ rfl (owns_mono HOR.out (by (repeat (first | with_reducible exact Below.refl _ _ | with_reducible exact hbw | (with_reducible refine Below.setCell ?_ ?_ _; rotate_left; · first | exact Nat.le_refl _ | omega | (simp; done) | (simp; omega)) | (with_reducible refine Below.alloc ?_ ?_ _; rotate_left; · first | exact Nat.le_refl _ | omega | (simp; done) | (simp; omega)) | with_reducible refine below_drewN ?_ _ | with_reducible refine Below.drew ?_)))) [.int .i64 dd[k].note, .int .i64 dd[k].start, .int .i64 dd[k].len] rfl (by simp [Value.oneCell']) wd.heap.size rfl rfl (by omega) (by decide) (by omega) ?_
            intro a8 c8 w8 ho8 hg8 hb8
            have hst8 : Below (w5.heap.size + 1) wd w8 := Below.trans (Below.mono (B := wd.heap.size) (by (repeat (first | with_reducible exact Below.refl _ _ | with_reducible exact hbw | (with_reducible refine Below.setCell ?_ ?_ _; rotate_left; · first | exact Nat.le_refl _ | omega | (simp; done) | (simp; omega)) | (with_reducible refine Below.alloc ?_ ?_ _; rotate_left; · first | exact Nat.le_refl _ | omega | (simp; done) | (simp; omega)) | with_reducible refine below_drewN ?_ _ | with_reducible refine Below.drew ?_))) hz) hb8
            have HT8 := Lib.hid (Touch.of_grown (B := w5.heap.size) (E := wd.heap.size) hg8 (fun q hq => by have := HOR.out.lt q hq; omega))
            have hz8 := hst8.size
            have x0 := cellL hst8 (by simp) x0
            have x1 := cellL hst8 (by simp) x1
            have xf := frozenL hst8 (by simp) xf
            have ht : Touch w5.heap.size (w5.heap.size + 1) w8 (w8.setCell ⟨w5.heap.size, 1, none⟩ (.slice a8 (nn + 1) c8)) := (Touch.refl _ _ w8).setCell (p := ⟨w5.heap.size, 1, none⟩) (by simp) _
            have l6 : w5.heap.size < w8.heap.size := by omega
            have BW := Lib.hid (show Below w5.heap.size w5 (w8.setCell ⟨w5.heap.size, 1, none⟩ (.slice a8 (nn + 1) c8)) from ht.below (HB.out.trans (hst8.mono (by omega))) (Nat.le_refl _) (by omega))
            have X0 := Lib.hid (show (w8.setCell ⟨w5.heap.size, 1, none⟩ (.slice a8 (nn + 1) c8)).cell? ⟨w5.heap.size, 0, none⟩ = some (.string name) by simp [go_sem, x0, l6, xf])
            have X1 := Lib.hid (show (w8.setCell ⟨w5.heap.size, 1, none⟩ (.slice a8 (nn + 1) c8)).cell? ⟨w5.heap.size, 1, none⟩ = some (.slice a8 (nn + 1) c8) by simp [go_sem, x1, l6, xf])
            have XF := Lib.hid (show (w8.setCell ⟨w5.heap.size, 1, none⟩ (.slice a8 (nn + 1) c8)).frozen? ⟨w5.heap.size, 1, none⟩ = false by simp [go_sem, l6, xf])
            have HO8 := Lib.hid (ownsRow_setCell_below (a := ⟨w5.heap.size, 1, none⟩) ho8 (by simp) (.slice a8 (nn + 1) c8))
            clear ht hst8 ho8 hg8 hb8 t0 t1 t2 t3
            go_wp2_with fail
            refine And.intro HT8.out ?_
            (repeat ((first | with_reducible refine wpOrd3_soft (fun K hK => ?_) | with_reducible refine wpOrd3_pre (fun K hK => ?_) | with_reducible refine wpOrd3_late (fun K hK => ?_)); simp only [List.getElem?_toArray, List.getElem?_cons_zero, List.getElem?_cons_succ]; first | (go_simp; refine hK _ ?_) | (simp only [undef]; go_simp; refine hK _ ?_); clear hK K))
            ((first | with_reducible refine wpOrd3_hard ?_ | with_reducible refine wpOrd3_new ?_); simp only [List.getElem?_toArray, List.getElem?_cons_zero, List.getElem?_cons_succ])
            go_wp2_with fail
            refine And.intro (HT8.out.setCell (p := ⟨w5.heap.size, 1, none⟩) ⟨Nat.le_refl _, l2⟩ _) ?_
            (with_reducible refine wpOrd3_nil ?_); refine NoPanic.normal ?_
            go_wp2
            go_roundw
            case rel =>
              refine ⟨k + 1, nn + 1, o ++ [dd[k]], a8, c8, by omega, by go_num, by simp [HOL.out], by omega, STN.out, fun y hy => ?_, by simpa [Ton.cells] using HO8.out, BW.out, by simp [World.setCell]; omega, X0.out, X1.out, XF.out⟩
              rcases List.mem_append.1 hy with h | h
              · exact HDO.out y h
              · rw [List.mem_singleton.1 h]; exact HDD.out _ (List.getElem_mem hlt)
            case measure => simp [intOf] <;> omega
          · have d0 : ((nn : Int) == 0) = false := by simpa using hn0
            have hO := HOR.out
            rw [← HOL.out] at hO
            have hnd : nn - 1 < o.length := by rw [HOL.out]; omega
            obtain ⟨b2, o2, e2, hT2⟩ := TonIn.of (Tons.of_owns hO) hnd
            obtain rfl := e2
            have n1 : ((nn : Int) - 1).toNat = nn - 1 := by omega
            have n2 : (1 : Int) ≤ (nn : Int) := by omega
            have n3 : IntKind.i64.wrap ((nn : Int) - 1) = (nn : Int) - 1 := IntWalk.i64_in _ (by omega)
            have n4 : ¬ (nn : Int) - 1 < 0 := by omega
            have n5 : ¬ (nn : Int) ≤ (nn : Int) - 1 := by omega
            clear hO
            by_cases hbf : before o[nn - 1] dd[k]
            · have HBF := Lib.hid hbf
              have STN := Lib.hid (show Stc' (o ++ [dd[k]]) from stc_add HST.out (fun h => by have e := HOL.out; subst e; exact HBF.out))
              clear hbf
              go_wp2_with fail
              go_quiet ((go_at_call 87; exact quiet_q (l25Before_any true _ _ _ _ o[nn - 1] dd[k] _ ⟨hT2.1, hT2.2, hT2.3, hT2.4⟩ ⟨hT.1, hT.2, hT.3, hT.4⟩ (yesB HBF.out))))
              clear d0 hT hT2 n1 n2 n3 n4 n5 HBF
              skip
              obtain ⟨wd, hwd⟩ : ∃ wd : World, wd = wr.drewN nq := ⟨_, rfl⟩
              have hq : Q wr wd := by rw [hwd]; exact (Q.refl _).drewN nq
              rw [← hwd]
              clear hwd
              have hbq : Below wr.heap.size wr wd := hq.below _
              have hzq := hbq.size
              have z0 := Lib.hid (cellB hbq z0.out)
              have z1 := cellB hbq z1
              have x0 := cellB hbq x0
              have x1 := cellB hbq x1
              have xf := frozenL hbq (by simp only; omega) xf
              have HOR := Lib.hid (owns_mono HOR.out hbq)
              have HB := Lib.hid (HB.out.trans (hbq.mono (by omega)))
              obtain ⟨t0, t1, t2, t3⟩ : TonIn wd b1 (o1 + k * 3) dd[k] := ⟨by rw [hq.heap]; exact HTk.out.1, (hq.cell _).trans HTk.out.2, (hq.cell _).trans HTk.out.3, (hq.cell _).trans HTk.out.4⟩
              have hz : w5.heap.size + 1 ≤ wd.heap.size := by omega
              clear hq hbq hzq HTk hTb
              have l1 : b1 < wd.heap.size + 1 := by omega
              have l2 : w5.heap.size < wd.heap.size := by omega
              have l3 : w5.heap.size < wd.heap.size + 1 := by omega
              have l4 : q < wd.heap.size := by omega
              have l5 : q < wd.heap.size + 1 := by omega
              have n0 : ∀ o y, (ext wd.drew none y).cell? ⟨w5.heap.size, o, none⟩ = wd.cell? ⟨w5.heap.size, o, none⟩ := fun o y => cell?_ext (w := wd.drew) (by simpa using l2) (by simp)
              have n1 : ∀ o x, (extT wd.drew w5.heap.size wd.heap.size x).cell? ⟨q, o, none⟩ = wd.cell? ⟨q, o, none⟩ := fun o x => cell?_extT_lo (w := wd.drew) (by simpa using l4) hz5
              have n2 : ∀ o x, (extT wd.drew w5.heap.size wd.heap.size x).cell? ⟨b1, o, none⟩ = wd.cell? ⟨b1, o, none⟩ := fun o x => cell?_extT_lo (w := wd.drew) (by simp; omega) hT1
              go_wp2_with fail
              refine wp_region_ord3 [(0, 1), (1, 3), (2, 1), (3, 1), (4, 1), (5, 1), (6, 1), (7, 4), (8, 0), (9, 1), (10, 0)] [7, 8, 10] [8, 10] (w5.heap.size) (wd.heap.size) (by kernel_rfl) (by kernel_rfl) ?_
              (repeat ((first | with_reducible refine wpOrd3_soft (fun K hK => ?_) | with_reducible refine wpOrd3_pre (fun K hK => ?_) | with_reducible refine wpOrd3_late (fun K hK => ?_)); simp only [List.getElem?_toArray, List.getElem?_cons_zero, List.getElem?_cons_succ]; first | (go_simp; refine hK _ ?_) | (simp only [undef]; go_simp; refine hK _ ?_); clear hK K))
              ((first | with_reducible refine wpOrd3_hard ?_ | with_reducible refine wpOrd3_new ?_); simp only [List.getElem?_toArray, List.getElem?_cons_zero, List.getElem?_cons_succ])
              go_wp2_with fail
              refine And.intro (grown_row' (belowA _ _)) ?_
              (repeat ((first | with_reducible refine wpOrd3_soft (fun K hK => ?_) | with_reducible refine wpOrd3_pre (fun K hK => ?_) | with_reducible refine wpOrd3_late (fun K hK => ?_)); simp only [List.getElem?_toArray, List.getElem?_cons_zero, List.getElem?_cons_succ]; first | (go_simp; refine hK _ ?_) | (simp only [undef]; go_simp; refine hK _ ?_); clear hK K))
              ((first | with_reducible refine wpOrd3_hard ?_ | with_reducible refine wpOrd3_new ?_); simp only [List.getElem?_toArray, List.getElem?_cons_zero, List.getElem?_cons_succ])
              refine append_one_atD rfl _ _ 27 rfl (w5.heap.size + 1) 92 _ 3 24 Try.underlying27 info_Tone rfl (by decide) _ nn _ rfl (owns_mono HOR.out (by (repeat (first | with_reducible exact Below.refl _ _ | with_reducible exact hbw | (with_reducible refine Below.setCell ?_ ?_ _; rotate_left; · first | exact Nat.le_refl _ | omega | (simp; done) | (simp; omega)) | (with_reducible refine Below.alloc ?_ ?_ _; rotate_left; · first | exact Nat.le_refl _ | omega | (simp; done) | (simp; omega)) | with_reducible refine below_drewN ?_ _ | with_reducible refine Below.drew ?_)))) [.int .i64 dd[k].note, .int .i64 dd[k].start, .int .i64 dd[k].len] rfl (by simp [Value.oneCell']) wd.heap.size rfl rfl (by omega) (by decide) (by omega) ?_
              intro a8 c8 w8 ho8 hg8 hb8
              have hst8 : Below (w5.heap.size + 1) wd w8 := Below.trans (Below.mono (B := wd.heap.size) (by (repeat (first | with_reducible exact Below.refl _ _ | with_reducible exact hbw | (with_reducible refine Below.setCell ?_ ?_ _; rotate_left; · first | exact Nat.le_refl _ | omega | (simp; done) | (simp; omega)) | (with_reducible refine Below.alloc ?_ ?_ _; rotate_left; · first | exact Nat.le_refl _ | omega | (simp; done) | (simp; omega)) | with_reducible refine below_drewN ?_ _ | with_reducible refine Below.drew ?_))) hz) hb8
              have HT8 := Lib.hid (Touch.of_grown (B := w5.heap.size) (E := wd.heap.size) hg8 (fun q hq => by have := HOR.out.lt q hq; omega))
              have hz8 := hst8.size
              have x0 := cellL hst8 (by simp) x0
              have x1 := cellL hst8 (by simp) x1
              have xf := frozenL hst8 (by simp) xf
              have ht : Touch w5.heap.size (w5.heap.size + 1) w8 (w8.setCell ⟨w5.heap.size, 1, none⟩ (.slice a8 (nn + 1) c8)) := (Touch.refl _ _ w8).setCell (p := ⟨w5.heap.size, 1, none⟩) (by simp) _
              have l6 : w5.heap.size < w8.heap.size := by omega
              have BW := Lib.hid (show Below w5.heap.size w5 (w8.setCell ⟨w5.heap.size, 1, none⟩ (.slice a8 (nn + 1) c8)) from ht.below (HB.out.trans (hst8.mono (by omega))) (Nat.le_refl _) (by omega))
              have X0 := Lib.hid (show (w8.setCell ⟨w5.heap.size, 1, none⟩ (.slice a8 (nn + 1) c8)).cell? ⟨w5.heap.size, 0, none⟩ = some (.string name) by simp [go_sem, x0, l6, xf])
              have X1 := Lib.hid (show (w8.setCell ⟨w5.heap.size, 1, none⟩ (.slice a8 (nn + 1) c8)).cell? ⟨w5.heap.size, 1, none⟩ = some (.slice a8 (nn + 1) c8) by simp [go_sem, x1, l6, xf])
              have XF := Lib.hid (show (w8.setCell ⟨w5.heap.size, 1, none⟩ (.slice a8 (nn + 1) c8)).frozen? ⟨w5.heap.size, 1, none⟩ = false by simp [go_sem, l6, xf])
              have HO8 := Lib.hid (ownsRow_setCell_below (a := ⟨w5.heap.size, 1, none⟩) ho8 (by simp) (.slice a8 (nn + 1) c8))
              clear ht hst8 ho8 hg8 hb8 t0 t1 t2 t3
              go_wp2_with fail
              refine And.intro HT8.out ?_
              (repeat ((first | with_reducible refine wpOrd3_soft (fun K hK => ?_) | with_reducible refine wpOrd3_pre (fun K hK => ?_) | with_reducible refine wpOrd3_late (fun K hK => ?_)); simp only [List.getElem?_toArray, List.getElem?_cons_zero, List.getElem?_cons_succ]; first | (go_simp; refine hK _ ?_) | (simp only [undef]; go_simp; refine hK _ ?_); clear hK K))
              ((first | with_reducible refine wpOrd3_hard ?_ | with_reducible refine wpOrd3_new ?_); simp only [List.getElem?_toArray, List.getElem?_cons_zero, List.getElem?_cons_succ])
              go_wp2_with fail
              refine And.intro (HT8.out.setCell (p := ⟨w5.heap.size, 1, none⟩) ⟨Nat.le_refl _, l2⟩ _) ?_
              (with_reducible refine wpOrd3_nil ?_); refine NoPanic.normal ?_
              go_wp2
              go_roundw
              case rel =>
                refine ⟨k + 1, nn + 1, o ++ [dd[k]], a8, c8, by omega, by go_num, by simp [HOL.out], by omega, STN.out, fun y hy => ?_, by simpa [Ton.cells] using HO8.out, BW.out, by simp [World.setCell]; omega, X0.out, X1.out, XF.out⟩
                rcases List.mem_append.1 hy with h | h
                · exact HDO.out y h
                · rw [List.mem_singleton.1 h]; exact HDD.out _ (List.getElem_mem hlt)
              case measure => simp [intOf] <;> omega
            · have HBF := Lib.hid hbf
              clear hbf
              go_wp2_with fail
              go_quiet ((go_at_call 87; exact quiet_q (l25Before_any false _ _ _ _ o[nn - 1] dd[k] _ ⟨hT2.1, hT2.2, hT2.3, hT2.4⟩ ⟨hT.1, hT.2, hT.3, hT.4⟩ (noB HBF.out))))
              clear d0 hT hT2 n1 n2 n3 n4 n5 HBF
              skip
              obtain ⟨wd, hwd⟩ : ∃ wd : World, wd = wr.drewN nq := ⟨_, rfl⟩
              have hq : Q wr wd := by rw [hwd]; exact (Q.refl _).drewN nq
              rw [← hwd]
              clear hwd
              have hbq : Below wr.heap.size wr wd := hq.below _
              have hzq := hbq.size
              have z0 := Lib.hid (cellB hbq z0.out)
              have z1 := cellB hbq z1
              have x0 := cellB hbq x0
              have x1 := cellB hbq x1
              have xf := frozenL hbq (by simp only; omega) xf
              have HOR := Lib.hid (owns_mono HOR.out hbq)
              have HB := Lib.hid (HB.out.trans (hbq.mono (by omega)))
              obtain ⟨t0, t1, t2, t3⟩ : TonIn wd b1 (o1 + k * 3) dd[k] := ⟨by rw [hq.heap]; exact HTk.out.1, (hq.cell _).trans HTk.out.2, (hq.cell _).trans HTk.out.3, (hq.cell _).trans HTk.out.4⟩
              have hz : w5.heap.size + 1 ≤ wd.heap.size := by omega
              clear hq hbq hzq HTk hTb
              go_wp2
              go_roundw
              case rel => exact ⟨k + 1, nn, o, _, c7, by omega, by go_num, HOL.out, by omega, HST.out, HDO.out, HOR.out, HB.out, hz, x0, x1, xf⟩
              case measure => simp [intOf] <;> omega
        · obtain rfl : k = dd.length := by omega
          have hol := HOL.out
          subst hol
          have r0 := cellB hb R0.out
          have r1 := cellB hb R1.out
          have l6 : w.heap.size < w5.heap.size := by omega
          have g0 := frozenL hb (by simp only; omega) G0.out
          have g1 := frozenL hb (by simp only; omega) G1.out
          have l7 : w.heap.size < wr.heap.size := by omega
          have l8 : w5.heap.size < wr.heap.size := by omega
          have HT6 := Lib.hid (HT5.out.step hb (by omega))
          have HS6 := Lib.hid (HS5.out.step (B := w5.heap.size) (by omega) hb)
          clear hb
          go_wp2
          refine bodyPost_ret (v := .agg #[.string name, .slice a7 o.length c7]) (by simp [results, Try.results94, go_sem, r0, r1, g0, g1, l7]) rfl ⟨_, rfl, ⟨name, o⟩, ⟨_, rfl, ?_⟩, ⟨draw_valid HN.out (by omega) HST.out HDO.out, by simp only; omega, HDO.out⟩, m, by omega, by omega, ?_, ?_⟩
          · refine ((OwnRow.mk' HOR.out).touch (B' := w.heap.size) (E' := w.heap.size + 1) ?_ (Or.inr (by omega))).wide (by omega) (by simp)
            have htc := Touch.refl w.heap.size (w.heap.size + 1) wr
            (repeat (first | with_reducible exact Touch.refl _ _ _ | with_reducible exact htc | (with_reducible refine Touch.setCell ?_ ?_ _; rotate_left; · (simp only; omega)) | (with_reducible refine Touch.setNew ?_ ?_ _; rotate_left; · (first | (simp only; omega) | (simp; done) | (simp; omega))) | with_reducible refine Touch.alloc ?_ _ | with_reducible refine Touch.drewN ?_ _ | with_reducible refine Touch.drew ?_))
          · refine HS6.out.touch (B := w.heap.size) (E := w.heap.size + 1) ?_ (.inl hpw) hlow'
            have htc := Touch.refl w.heap.size (w.heap.size + 1) wr
            (repeat (first | with_reducible exact Touch.refl _ _ _ | with_reducible exact htc | (with_reducible refine Touch.setCell ?_ ?_ _; rotate_left; · (simp only; omega)) | (with_reducible refine Touch.setNew ?_ ?_ _; rotate_left; · (first | (simp only; omega) | (simp; done) | (simp; omega))) | with_reducible refine Touch.alloc ?_ _ | with_reducible refine Touch.drewN ?_ _ | with_reducible refine Touch.drew ?_))
          · have htc := HT6.out
            (repeat (first | with_reducible exact Touch.refl _ _ _ | with_reducible exact htc | (with_reducible refine Touch.setCell ?_ ?_ _; rotate_left; · (simp only; omega)) | (with_reducible refine Touch.setNew ?_ ?_ _; rotate_left; · (first | (simp only; omega) | (simp; done) | (simp; omega))) | with_reducible refine Touch.alloc ?_ _ | with_reducible refine Touch.drewN ?_ _ | with_reducible refine Touch.drew ?_))

end Go.Proofs.Ytemmnjokojgjaaa
/- A block that holds the cells cs, none frozen: facts carried in one word. No program in sight. -/
set_option linter.unusedSimpArgs false
set_option linter.unnecessarySimpa false
set_option linter.unusedVariables false
namespace Go.Proofs.Ytemmnjokojgjaaa
open Go.RowKit

structure Box (w : World) (q : Nat) (cs : List Value) : Prop where
  lt : q < w.heap.size
  at' : ∀ j u, cs[j]? = some u → w.cell? ⟨q, j, none⟩ = some u
  fr : ∀ j, w.frozen? ⟨q, j, none⟩ = false
theorem Box.touch {w w' : World} {q B E : Nat} {cs : List Value} (h : Box w q cs) (t : Touch B E w w') (hq : q < B ∨ E ≤ q) : Box w' q cs :=
  ⟨Nat.lt_of_lt_of_le h.lt t.size, fun j u hu => cellT t (h.at' j u hu) hq, fun j => froz_touch t h.lt hq (h.fr j)⟩
theorem Box.step {w w' : World} {q K : Nat} {cs : List Value} (h : Box w q cs) (t : Below K w w') (hq : q < K) : Box w' q cs :=
  ⟨Nat.lt_of_lt_of_le h.lt t.size, fun j u hu => cellL t hq (h.at' j u hu), fun j => frozenL t hq (h.fr j)⟩
theorem Box.mono {w w' : World} {q : Nat} {cs : List Value} (h : Box w q cs) (t : Below w.heap.size w w') : Box w' q cs := h.step t h.lt
theorem Box.alloc (w : World) (cs : List Value) (e : TypeId) (q : Nat) (hq : w.heap.size = q) : Box (w.alloc (.cells cs.toArray e)) q cs := by
  subst hq
  refine ⟨by simp, fun j u hu => ?_, fun j => by simp [go_sem]⟩
  rw [cell_of_row _ w.heap.size j cs.toArray e (0, 0) (heap_alloc_new w _)]
  simpa using hu
theorem Box.set {w : World} {q j : Nat} {cs : List Value} (h : Box w q cs) (u : Value) (hj : j < cs.length) : Box (w.setCell ⟨q, j, none⟩ u) q (cs.set j u) := by
  obtain ⟨lt, at', fr⟩ := h
  have c0 := at' j cs[j] (by simp [hj])
  have f0 := fr j
  refine ⟨by simpa [World.setCell] using lt, fun i v hv => ?_, fun i => ?_⟩
  · by_cases e : i = j
    · subst e
      rw [List.getElem?_set_self hj] at hv
      cases hv
      simp [go_sem, c0, f0, lt]
    · rw [List.getElem?_set_ne (fun e' => e e'.symm)] at hv
      have := at' i v hv
      simp [go_sem, this, c0, f0, lt, e]
  · have := fr i
    simp [go_sem, lt, f0, this]

end Go.Proofs.Ytemmnjokojgjaaa
/- A written list, and one of it drawn; rows that a store does not reach. -/
set_option linter.unusedSimpArgs false
set_option linter.unnecessarySimpa false
set_option linter.unusedVariables false
set_option maxRecDepth 100000
namespace Go.Proofs.Ytemmnjokojgjaaa
open Go.RowKit

/-- A list of numbers as written, then among it. -/
theorem among_lit (w0 : World) (p n : Nat) (cv : Value) (bs : List Int) (xs : List Int) (k H : Nat) (w : World) (h0 : Byts w0 cv bs) (ok : okByts bs) (h : Src w0 w p cv n) (hn : n ≤ 900000000) (hH : w.heap.size = H) (hk : xs.length = k) (hl : 1 ≤ xs.length) (hl2 : xs.length ≤ 1000) :
    Calls Try.prog 60 #[.pointer (some ⟨p, 0, none⟩), .slice (some ⟨H, 0, none⟩) k k] (w.alloc (.cells (xs.map (Value.int .i64)).toArray 2)) fun e w' => ∃ (r : Int) (m : Nat), e = .returned (.int .i64 r) ∧ r ∈ xs ∧ n ≤ m ∧ m ≤ n + 2 ∧ Src w0 w' p cv m ∧ Touch p (p + 1) w w' := by
  subst hk
  have S0 : Sl (w.alloc (.cells (xs.map (Value.int .i64)).toArray 2)) (.slice (some ⟨H, 0, none⟩) xs.length xs.length) xs.length (xs.map (Value.int .i64)) := sl_lit w _ _ _ _ hH (by unfold maxLen; omega)
  have hp := h.lt
  refine (among_any w0 p n cv bs _ xs _ h0 ok (h.mono (belowA _ _)) hn S0 hl hl2 (fun w' t => S0.touchQ t (.inr (by omega)))).mono ?_
  rintro e w' ⟨r, m, rfl, h1, h2, h3, h4, h5⟩
  exact ⟨r, m, rfl, h1, h2, h3, h4, ((Touch.refl _ _ _).alloc _).trans h5⟩

theorem owns_ne {w : World} {base : Nat} {e : TypeId} {size n : Nat} {v : Value} {cs : List Value} (h : w.ownsRow base e size v n cs) {b o : Nat} (hb : ∀ q, v.ownBlock = some q → q ≠ b) (u : Value) : (w.setCell ⟨b, o, none⟩ u).ownsRow base e size v n cs := by
  refine ⟨h.1, ?_⟩
  rcases h.2 with h2 | ⟨g, cap, cur, rfl, x1, x2, x3⟩
  · exact .inl h2
  · have hg : g ≠ b := hb g rfl
    exact .inr ⟨g, cap, cur, rfl, x1, (Below.heap_setCell _ _ _ _ (by simpa using hg)).trans x2, x3⟩

end Go.Proofs.Ytemmnjokojgjaaa
