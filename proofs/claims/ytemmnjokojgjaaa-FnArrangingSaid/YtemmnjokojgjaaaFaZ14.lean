import Derived.Test.YtemmnjokojgjaaaFaZ1
import Derived.Test.YtemmnjokojgjaaaFaZ6
import Derived.Test.YtemmnjokojgjaaaFaZ13
import Derived.Test.YtemmnjokojgjaaaFaZ12
import Derived.Test.YtemmnjokojgjaaaFaZ7
import Derived.Test.YtemmnjokojgjaaaFaZ3
/- Contracts of l26Order and shifts: 0, -1, 1, -2, 2 .. -24, 24. -/
set_option linter.unusedSimpArgs false
set_option linter.unnecessarySimpa false
set_option linter.unusedVariables false
set_option maxRecDepth 100000
namespace Go.Proofs.Ytemmnjokojgjaaa
open Go.RowKit

/-- 'out = append(out, x, y)' of cells of size 1, out owned, the pair laid just ahead. -/
theorem append_two {P : Program} {w : World} {ops : Array Oper} {rest : List Oper} {o : Oper} {a : Act} {Q : Exit → Act → World → Prop} (hgd : o.guard = none) (s x : Operand) (t : TypeId)
    (ho : o.op = .call { callee := .builtin .append, args := #[s, x], argTypes := #[t, t] })
    (base : Nat) (e : TypeId) (z : Value) (bytes : Nat) (ht : P.underlying t = some (.slice e)) (hi : (P.info? e).map (fun i => (i.zero, i.size, i.bytes)) = some (some z, 1, bytes)) (hzs : z.cells.size = 1)
    (v : Value) (n : Nat) (xs : List Value) (hs : a.eval s = v) (hown : w.ownsRow base e 1 v n xs) (news : List Value) (hl : news.length = 2) (h1 : ∀ u ∈ news, u.oneCell' = true)
    (hx : a.eval x = .slice (some ⟨w.heap.size, 0, none⟩) 2 2) (hn : n ≤ 1000000000) (hbytes : bytes ≤ 1000) (hbase : base ≤ w.heap.size)
    (h : ∀ a' cap' w', w'.ownsRow base e 1 (.slice a' (n + 2) cap') (n + 2) (xs ++ news) → w.grownBy w' v.ownBlock → Below base w w' → wpList P ops Q rest (Act.put a o.dst (.slice a' (n + 2) cap')) w') :
    wpList P ops Q (o :: rest) a (w.alloc (.cells news.toArray e)) := by
  obtain ⟨i0, hi, hz0, hz1, hz2⟩ := info_parts hi
  have hb2 : (n + 2) * bytes ≤ 140737488355328 := Nat.le_trans (Nat.mul_le_mul (show n + 2 ≤ 1000000002 by omega) hbytes) (by omega)
  refine wpList_append_own _ hgd s x t ho base e i0 z 1 bytes ht hi hz0 hz1 hz2 hzs (by decide) v n xs hs (hown.alloc _) ⟨w.heap.size, 0, none⟩ 2 2 news hx (by omega) (fun j u hu => ?_) h1 (by unfold maxLen; omega) hb2 (by simp; omega) (fun v' w' ho' hg' _ => ?_)
  · rw [Addr.add_lit, Nat.zero_add, cell_of_row _ w.heap.size j news.toArray e (0, 0) (heap_alloc_new w _)]
    simpa using hu
  · obtain ⟨a', cap', rfl⟩ : ∃ a' cap', v' = .slice a' (n + 2) cap' := by
      rcases ho'.2 with ⟨rfl, h0⟩ | ⟨g, cap, cur, rfl, _⟩
      · omega
      · exact ⟨_, _, rfl⟩
    have hg2 : w.grownBy w' v.ownBlock := grown_trans (World.grownBy_alloc _ _ _) hg'
    exact h a' cap' w' ho' hg2 ((Below.refl base w).grown hg2 hbase (fun k hk => (hown.lt k hk).1))

def shK (k : Nat) : Int := if k % 2 = 1 then -(((k + 1) / 2 : Nat) : Int) else ((k / 2 : Nat) : Int)
theorem shK_bd {k : Nat} (h : k ≤ 48) : -24 ≤ shK k ∧ shK k ≤ 24 := by unfold shK; split <;> omega
theorem shK_odd (m : Nat) : shK (2 * m + 1) = -((m : Int) + 1) := by unfold shK; rw [if_pos (by omega)]; omega
theorem shK_even (m : Nat) : shK (2 * m) = (m : Int) := by unfold shK; rw [if_neg (by omega)]; omega
def shL (k : Nat) : List Int := (List.range k).map shK
theorem shL_len (k : Nat) : (shL k).length = k := by simp [shL]
theorem shL_get {n k : Nat} (h : k < (shL n).length) : (shL n)[k] = shK k := by simp [shL]
theorem shL_two (m : Nat) : shL (2 * m + 3) = shL (2 * m + 1) ++ [-((m : Int) + 1), (m : Int) + 1] := by
  have e1 : shK (2 * m + 1) = -((m : Int) + 1) := shK_odd m
  have e2 : shK (2 * m + 2) = ((m : Int) + 1) := by have := shK_even (m + 1); rw [show 2 * (m + 1) = 2 * m + 2 by omega] at this; rw [this]; omega
  unfold shL
  rw [List.range_succ, List.range_succ]
  simp [e1, e2]

theorem l26Order_any (k : Nat) (w : World) (h : k ≤ 48) :
    Calls Try.prog 51 #[.int .i64 (k : Int)] w fun e w' => e = .returned (.int .i64 (shK k)) ∧ w' = w := by
  by_cases p : k % 2 = 1
  · obtain ⟨m, rfl⟩ : ∃ m, k = 2 * m + 1 := ⟨k / 2, by omega⟩
    have E := Lib.hid (shK_odd m)
    obtain ⟨n, hn⟩ : ∃ n : Int, n = ((2 * m + 1 : Nat) : Int) := ⟨_, rfl⟩
    rw [← hn]
    have t1 : IntKind.i64.wrap (n.tmod 2) = 1 := by rw [Int.tmod_eq_emod_of_nonneg (by omega), show n % 2 = 1 by omega]; decide
    have d1 : (n.tmod 2 == 1) = true := by rw [Int.tmod_eq_emod_of_nonneg (by omega), show n % 2 = 1 by omega]; rfl
    have w1 : IntKind.i64.wrap (n + 1) = n + 1 := IntWalk.i64_in _ (by omega)
    have w2 : IntKind.i64.wrap (-(n + 1)) = -(n + 1) := IntWalk.i64_in _ (by omega)
    have w3 : IntKind.i64.wrap (-((n + 1).tdiv 2)) = -((m : Int) + 1) := by
      rw [Int.tdiv_eq_ediv_of_nonneg (by omega), show (n + 1) / 2 = (m : Int) + 1 by omega]; exact IntWalk.i64_in _ (by omega)
    have N := Lib.hid hn; clear hn
    go_enter Try.func51, Try.ntmps51
    go_wp2
    go_ret
    exact ⟨by rw [E.out]; rfl, rfl⟩
  · obtain ⟨m, rfl⟩ : ∃ m, k = 2 * m := ⟨k / 2, by omega⟩
    have E := Lib.hid (shK_even m)
    obtain ⟨n, hn⟩ : ∃ n : Int, n = ((2 * m : Nat) : Int) := ⟨_, rfl⟩
    rw [← hn]
    have t1 : IntKind.i64.wrap (n.tmod 2) = 0 := by rw [Int.tmod_eq_emod_of_nonneg (by omega), show n % 2 = 0 by omega]; decide
    have d1 : (n.tmod 2 == 1) = false := by rw [Int.tmod_eq_emod_of_nonneg (by omega), show n % 2 = 0 by omega]; rfl
    have w3 : IntKind.i64.wrap (n.tdiv 2) = (m : Int) := by
      rw [Int.tdiv_eq_ediv_of_nonneg (by omega), show n / 2 = (m : Int) by omega]; exact IntWalk.i64_in _ (by omega)
    have N := Lib.hid hn; clear hn
    go_enter Try.func51, Try.ntmps51
    go_wp2
    go_ret
    exact ⟨by rw [E.out]; rfl, rfl⟩

theorem owns_single (w : World) (e : TypeId) (base : Nat) (n : Int) (h : base ≤ w.heap.size) : (w.alloc (.cells #[.int .i64 n] e)).ownsRow base e 1 (.slice (some ⟨w.heap.size, 0, none⟩) 1 1) 1 [.int .i64 n] :=
  ⟨by simp, .inr ⟨w.heap.size, 1, #[.int .i64 n], rfl, h, heap_alloc_new w _, by simp, by simp [maxLen], by simp, by simp⟩⟩

set_option maxHeartbeats 1000000 in
theorem shifts_any (w : World) :
    Calls Try.prog 52 #[] w fun e w' => ∃ v', e = .returned v' ∧ w'.ownsRow w.heap.size 2 1 v' 49 ((shL 49).map (Value.int .i64)) ∧ Below w.heap.size w w' := by
  go_enter Try.func52, Try.ntmps52
  go_wp2_with fail
  go_loopw [1, 2] (fun o i wr => ∃ (m n : Nat) (a' : Option Addr) (c' : Nat), m ≤ 24 ∧ n = 2 * m + 1 ∧ i = .int .i64 ((m : Int) + 1) ∧ o = .slice a' n c' ∧ wr.ownsRow w.heap.size 2 1 (.slice a' n c') n ((shL n).map (Value.int .i64)) ∧ Below w.heap.size w wr) (fun _ i _ => 25 - (intOf i).toNat)
  case atStart => exact ⟨0, 1, _, _, by omega, rfl, by go_num, rfl, owns_single _ _ _ _ (Nat.le_refl _), by (repeat (first | with_reducible exact Below.refl _ _ | with_reducible exact hbw | (with_reducible refine Below.setCell ?_ ?_ _; rotate_left; · first | exact Nat.le_refl _ | omega | (simp; done) | (simp; omega)) | (with_reducible refine Below.alloc ?_ ?_ _; rotate_left; · first | exact Nat.le_refl _ | omega | (simp; done) | (simp; omega)) | with_reducible refine below_drewN ?_ _ | with_reducible refine Below.drew ?_))⟩
  case round =>
    obtain ⟨m, n, a1, c1, hm, hn, rfl, rfl, ho, hb⟩ := hrel
    have hz := hb.size
    obtain ⟨u, hu⟩ : ∃ u : Int, u = (m : Int) + 1 := ⟨_, rfl⟩
    rw [← hu]
    by_cases hlt : m < 24
    · have w1 : IntKind.i64.wrap (u + 1) = u + 1 := IntWalk.i64_in _ (by omega)
      have w2 : IntKind.i64.wrap (-u) = -u := IntWalk.i64_in _ (by omega)
      have d1 : decide (u ≤ 24) = true := by simp; omega
      have hn2 : n ≤ 1000 := by omega
      have S := Lib.hid (show shL (n + 2) = shL n ++ [-u, u] by rw [hn, hu]; exact shL_two m)
      have HN := Lib.hid hn; clear hn
      have HU := Lib.hid hu; clear hu
      go_wp2_with (at_builtin; refine append_two rfl _ _ 25 rfl w.heap.size 2 (.int .i64 0) 8 Try.underlying25 info_int64 rfl _ n _ rfl ho [.int .i64 (-u), .int .i64 u] rfl (by simp [Value.oneCell']) rfl (by omega) (by decide) hz ?_)
      intro a' cap' w3 ho3 _ hb3
      go_wp2
      go_roundw
      case rel => exact ⟨m + 1, n + 2, a', cap', by omega, by have := HN.out; omega, by have := HU.out; subst this; go_num, rfl, by rw [S.out]; simpa using ho3, hb.trans hb3⟩
      case measure => have := HU.out; simp [intOf] <;> omega
    · have d1 : decide (u ≤ 24) = false := by simp; omega
      have hn' : n = 49 := by omega
      have HN := Lib.hid hn'; clear hn hn' hu
      go_wp2
      go_ret
      exact ⟨_, rfl, by have := HN.out; subst this; exact ho, hb⟩

end Go.Proofs.Ytemmnjokojgjaaa
/- Contracts of ArrangeTune, ArrangeCost and BestShift of both packages. -/
set_option linter.unusedSimpArgs false
set_option linter.unnecessarySimpa false
set_option linter.unusedVariables false
set_option maxRecDepth 100000
namespace Go.Proofs.Ytemmnjokojgjaaa
open Go.RowKit

theorem arC_w {x : TunD} {ns : List Int} {b : Int} (hx : validTunB x = true) (hs : SetIn ns) : IntKind.i64.wrap (10 * arD x ns b) = 10 * arD x ns b ∧ IntKind.i64.wrap (arM x ns b + 10 * arD x ns b) = arM x ns b + 10 * arD x ns b := by
  have := ar_bd (b := b) hx hs
  exact ⟨IntWalk.i64_in _ (by omega), IntWalk.i64_in _ (by omega)⟩

set_option maxHeartbeats 1000000 in
theorem arrangeCost_any (vt lv v : Value) (x : TunD) (ns : List Int) (b : Int) (w : World) (h : Tun w vt lv x) (hn : Ints w v ns) (ok : validTunB x = true) (hset : SetIn ns) (hs : shiftIn b) (hnm : x.name.size ≤ maxLen) (o : Int) (ho : o = arC x ns b) :
    Calls Try.prog 50 #[vt, v, .int .i64 b] w fun e w' => e = .returned (.int .i64 o) ∧ Below w.heap.size w w' := by
  obtain ⟨rfl, hlv⟩ := h
  obtain ⟨a9, c9, rfl, _, _, _⟩ := id hn
  obtain ⟨q1, q2⟩ := arC_w (b := b) ok hset
  have HO := Lib.hid ho
  have HC := Lib.hid (show arM x ns b = mvCnt (arTo ns b x.tones x.tones.length).2 (arTo ns b x.tones x.tones.length).1.length ∧ arD x ns b = (x.tones.length : Int) - (arTo ns b x.tones x.tones.length).1.length from ⟨rfl, rfl⟩)
  clear ho
  go_enter Try.func50, Try.ntmps50
  go_wp2_with fail
  refine (arrange_any _ lv _ x ns b _ ⟨rfl, hlv.mono (by (repeat (first | with_reducible exact Below.refl _ _ | with_reducible exact hbw | (with_reducible refine Below.setCell ?_ ?_ _; rotate_left; · first | exact Nat.le_refl _ | omega | (simp; done) | (simp; omega)) | (with_reducible refine Below.alloc ?_ ?_ _; rotate_left; · first | exact Nat.le_refl _ | omega | (simp; done) | (simp; omega)) | with_reducible refine below_drewN ?_ _ | with_reducible refine Below.drew ?_)))⟩ (Ints.mono hn (by (repeat (first | with_reducible exact Below.refl _ _ | with_reducible exact hbw | (with_reducible refine Below.setCell ?_ ?_ _; rotate_left; · first | exact Nat.le_refl _ | omega | (simp; done) | (simp; omega)) | (with_reducible refine Below.alloc ?_ ?_ _; rotate_left; · first | exact Nat.le_refl _ | omega | (simp; done) | (simp; omega)) | with_reducible refine below_drewN ?_ _ | with_reducible refine Below.drew ?_)))) ok hset hs hnm).mono ?_
  rw [← HC.out.1, ← HC.out.2]
  rintro e w1 ⟨v1, rfl, ⟨l1, rfl, ho1⟩, hb⟩
  obtain ⟨a1, c1, rfl⟩ := ho1.form
  have hbw : Below w.heap.size w w1 := Below.trans (by (repeat (first | with_reducible exact Below.refl _ _ | with_reducible exact hbw | (with_reducible refine Below.setCell ?_ ?_ _; rotate_left; · first | exact Nat.le_refl _ | omega | (simp; done) | (simp; omega)) | (with_reducible refine Below.alloc ?_ ?_ _; rotate_left; · first | exact Nat.le_refl _ | omega | (simp; done) | (simp; omega)) | with_reducible refine below_drewN ?_ _ | with_reducible refine Below.drew ?_))) (hb.mono (by simp <;> omega))
  have HB := Lib.hid hbw
  clear hb ho1 hbw
  go_wp2
  go_ret
  refine ⟨ret_int (by rw [HO.out]; rfl), ?_⟩
  have hbw := HB.out
  have hz := hbw.size
  (repeat (first | with_reducible exact Below.refl _ _ | with_reducible exact hbw | (with_reducible refine Below.setCell ?_ ?_ _; rotate_left; · first | exact Nat.le_refl _ | omega | (simp; done) | (simp; omega)) | (with_reducible refine Below.alloc ?_ ?_ _; rotate_left; · first | exact Nat.le_refl _ | omega | (simp; done) | (simp; omega)) | with_reducible refine below_drewN ?_ _ | with_reducible refine Below.drew ?_))

set_option maxHeartbeats 1000000 in
theorem l26Cost_any (kb : Nat) (lv v : Value) (x : TunD) (ns : List Int) (b : Int) (w : World) (h : TunIn w kb lv x) (hn : Ints w v ns) (ok : validTunB x = true) (hset : SetIn ns) (hs : shiftIn b) (o : Int) (ho : o = arC x ns b) :
    Calls Try.prog 49 #[.pointer (some ⟨kb, 0, none⟩), v, .int .i64 b] w fun e w' => e = .returned (.int .i64 o) ∧ Below w.heap.size w w' := by
  obtain ⟨a9, c9, rfl, _, _, _⟩ := id hn
  obtain ⟨q1, q2⟩ := arC_w (b := b) ok hset
  have HO := Lib.hid ho
  have HT := Lib.hid h
  clear ho h
  go_enter Try.func49, Try.ntmps49
  go_wp2_with fail
  refine (l26Arrange_any _ lv _ x ns b _ HT.out hn ok hset hs).mono ?_
  rintro e w1 ⟨v1, rfl, ⟨l1, rfl, ho1⟩, hb⟩
  obtain ⟨a1, c1, rfl⟩ := ho1.form
  have HB := Lib.hid hb
  clear hb ho1
  go_wp2
  go_ret
  refine ⟨ret_int (by rw [HO.out]; rfl), ?_⟩
  have hbw := HB.out
  have hz := hbw.size
  (repeat (first | with_reducible exact Below.refl _ _ | with_reducible exact hbw | (with_reducible refine Below.setCell ?_ ?_ _; rotate_left; · first | exact Nat.le_refl _ | omega | (simp; done) | (simp; omega)) | (with_reducible refine Below.alloc ?_ ?_ _; rotate_left; · first | exact Nat.le_refl _ | omega | (simp; done) | (simp; omega)) | with_reducible refine below_drewN ?_ _ | with_reducible refine Below.drew ?_))

set_option maxHeartbeats 1000000 in
theorem specArrangeCost_any (v : Value) (x : TunD) (v2 : Value) (ns : List Int) (b : Int) (w : World) (h : RdTun w v x) (ok : x.ok) (_ : x.tones.length ≤ 1048576) (hn : RdInts w v2 ns) (_ : ∀ x ∈ ns, I64 x) (_ : ns.length ≤ 1048576) (_ : I64 b) :
    Calls Try.prog 18 #[v, v2, .int .i64 b] w fun e w' => e = .returned (.tuple #[.int .i64 (acoV x ns b), .int .i64 (askC x ns b)]) ∧ Below w.heap.size w w' := by
  obtain ⟨lv, rfl, hlv⟩ := h
  have hn : Ints w v2 ns := hn
  obtain ⟨a1, cs1, rfl, _, _, _⟩ := id hn
  by_cases ga : askC x ns b = 0
  · have AV := Lib.hid (ask_zero.1 ga)
    have E := Lib.hid (show acoV x ns b = arC x ns b by unfold acoV; rw [if_pos ga])
    have d0 : (askC x ns b != 0) = false := by simpa using ga
    have A0 := Lib.hid ga; clear ga
    go_enter Try.func18, Try.ntmps18
    go_wp2_with fail
    refine (l26Ask_any _ lv _ x ns b _ ⟨by simp [go_sem], by simp [go_sem], hlv.mono (by (repeat (first | with_reducible exact Below.refl _ _ | with_reducible exact hbw | (with_reducible refine Below.setCell ?_ ?_ _; rotate_left; · first | exact Nat.le_refl _ | omega | (simp; done) | (simp; omega)) | (with_reducible refine Below.alloc ?_ ?_ _; rotate_left; · first | exact Nat.le_refl _ | omega | (simp; done) | (simp; omega)) | with_reducible refine below_drewN ?_ _ | with_reducible refine Below.drew ?_))), ok.1⟩ (Ints.mono hn (by (repeat (first | with_reducible exact Below.refl _ _ | with_reducible exact hbw | (with_reducible refine Below.setCell ?_ ?_ _; rotate_left; · first | exact Nat.le_refl _ | omega | (simp; done) | (simp; omega)) | (with_reducible refine Below.alloc ?_ ?_ _; rotate_left; · first | exact Nat.le_refl _ | omega | (simp; done) | (simp; omega)) | with_reducible refine below_drewN ?_ _ | with_reducible refine Below.drew ?_))))).mono ?_
    rintro e w1 ⟨rfl, hb⟩
    have hbw : Below w.heap.size w w1 := Below.trans (by (repeat (first | with_reducible exact Below.refl _ _ | with_reducible exact hbw | (with_reducible refine Below.setCell ?_ ?_ _; rotate_left; · first | exact Nat.le_refl _ | omega | (simp; done) | (simp; omega)) | (with_reducible refine Below.alloc ?_ ?_ _; rotate_left; · first | exact Nat.le_refl _ | omega | (simp; done) | (simp; omega)) | with_reducible refine below_drewN ?_ _ | with_reducible refine Below.drew ?_))) (hb.mono (by simp <;> omega))
    have y0 : w1.cell? ⟨w.heap.size, 0, none⟩ = some (.string x.name) := cellB hb (by simp [go_sem])
    have y1 : w1.cell? ⟨w.heap.size, 1, none⟩ = some lv := cellB hb (by simp [go_sem])
    have hz1 : w.heap.size < w1.heap.size := by have := hb.size; simp at this; omega
    clear hb
    go_wp2_with fail
    refine (l26Cost_any _ lv _ x ns b _ ⟨y0, y1, hlv.mono hbw, ok.1⟩ (Ints.mono hn hbw) AV.out.1 (set_in AV.out.2.1) AV.out.2.2 _ rfl).mono ?_
    rintro e w2 ⟨rfl, h2⟩
    go_wp2
    go_ret2
    exact ⟨by rw [E.out, A0.out]; rfl, hbw.trans (h2.mono hbw.size)⟩
  · have E := Lib.hid (show acoV x ns b = 0 by unfold acoV; rw [if_neg ga])
    have d0 : (askC x ns b != 0) = true := by simpa using ga
    clear ga
    go_enter Try.func18, Try.ntmps18
    go_wp2_with fail
    refine (l26Ask_any _ lv _ x ns b _ ⟨by simp [go_sem], by simp [go_sem], hlv.mono (by (repeat (first | with_reducible exact Below.refl _ _ | with_reducible exact hbw | (with_reducible refine Below.setCell ?_ ?_ _; rotate_left; · first | exact Nat.le_refl _ | omega | (simp; done) | (simp; omega)) | (with_reducible refine Below.alloc ?_ ?_ _; rotate_left; · first | exact Nat.le_refl _ | omega | (simp; done) | (simp; omega)) | with_reducible refine below_drewN ?_ _ | with_reducible refine Below.drew ?_))), ok.1⟩ (Ints.mono hn (by (repeat (first | with_reducible exact Below.refl _ _ | with_reducible exact hbw | (with_reducible refine Below.setCell ?_ ?_ _; rotate_left; · first | exact Nat.le_refl _ | omega | (simp; done) | (simp; omega)) | (with_reducible refine Below.alloc ?_ ?_ _; rotate_left; · first | exact Nat.le_refl _ | omega | (simp; done) | (simp; omega)) | with_reducible refine below_drewN ?_ _ | with_reducible refine Below.drew ?_))))).mono ?_
    rintro e w1 ⟨rfl, hb⟩
    have hbw : Below w.heap.size w w1 := Below.trans (by (repeat (first | with_reducible exact Below.refl _ _ | with_reducible exact hbw | (with_reducible refine Below.setCell ?_ ?_ _; rotate_left; · first | exact Nat.le_refl _ | omega | (simp; done) | (simp; omega)) | (with_reducible refine Below.alloc ?_ ?_ _; rotate_left; · first | exact Nat.le_refl _ | omega | (simp; done) | (simp; omega)) | with_reducible refine below_drewN ?_ _ | with_reducible refine Below.drew ?_))) (hb.mono (by simp <;> omega))
    have y0 : w1.cell? ⟨w.heap.size, 0, none⟩ = some (.string x.name) := cellB hb (by simp [go_sem])
    have y1 : w1.cell? ⟨w.heap.size, 1, none⟩ = some lv := cellB hb (by simp [go_sem])
    have hz1 : w.heap.size < w1.heap.size := by have := hb.size; simp at this; omega
    clear hb
    go_wp2
    go_ret2
    exact ⟨by rw [E.out]; rfl, hbw⟩

set_option maxHeartbeats 1000000 in
theorem implArrangeCost_any (v : Value) (x : TunD) (v2 : Value) (ns : List Int) (b : Int) (w : World) (h : RdTun w v x) (ok : x.ok) (_ : x.tones.length ≤ 1048576) (hn : RdInts w v2 ns) (_ : ∀ x ∈ ns, I64 x) (_ : ns.length ≤ 1048576) (_ : I64 b) :
    Calls Try.prog 19 #[v, v2, .int .i64 b] w fun e w' => e = .returned (.tuple #[.int .i64 (acoV x ns b), .int .i64 (askC x ns b)]) ∧ Below w.heap.size w w' := by
  obtain ⟨lv, rfl, hlv⟩ := h
  have hn : Ints w v2 ns := hn
  obtain ⟨a1, cs1, rfl, _, _, _⟩ := id hn
  by_cases ga : askC x ns b = 0
  · have AV := Lib.hid (ask_zero.1 ga)
    have E := Lib.hid (show acoV x ns b = arC x ns b by unfold acoV; rw [if_pos ga])
    have d0 : (askC x ns b != 0) = false := by simpa using ga
    have A0 := Lib.hid ga; clear ga
    go_enter Try.func19, Try.ntmps19
    go_wp2_with fail
    refine (arranged_any _ lv _ x ns b _ ⟨rfl, hlv.mono (by (repeat (first | with_reducible exact Below.refl _ _ | with_reducible exact hbw | (with_reducible refine Below.setCell ?_ ?_ _; rotate_left; · first | exact Nat.le_refl _ | omega | (simp; done) | (simp; omega)) | (with_reducible refine Below.alloc ?_ ?_ _; rotate_left; · first | exact Nat.le_refl _ | omega | (simp; done) | (simp; omega)) | with_reducible refine below_drewN ?_ _ | with_reducible refine Below.drew ?_)))⟩ ok.1 (Ints.mono hn (by (repeat (first | with_reducible exact Below.refl _ _ | with_reducible exact hbw | (with_reducible refine Below.setCell ?_ ?_ _; rotate_left; · first | exact Nat.le_refl _ | omega | (simp; done) | (simp; omega)) | (with_reducible refine Below.alloc ?_ ?_ _; rotate_left; · first | exact Nat.le_refl _ | omega | (simp; done) | (simp; omega)) | with_reducible refine below_drewN ?_ _ | with_reducible refine Below.drew ?_))))).mono ?_
    rintro e w1 ⟨rfl, hb⟩
    have hbw : Below w.heap.size w w1 := Below.trans (by (repeat (first | with_reducible exact Below.refl _ _ | with_reducible exact hbw | (with_reducible refine Below.setCell ?_ ?_ _; rotate_left; · first | exact Nat.le_refl _ | omega | (simp; done) | (simp; omega)) | (with_reducible refine Below.alloc ?_ ?_ _; rotate_left; · first | exact Nat.le_refl _ | omega | (simp; done) | (simp; omega)) | with_reducible refine below_drewN ?_ _ | with_reducible refine Below.drew ?_))) (hb.mono (by simp <;> omega))
    have y0 : w1.cell? ⟨w.heap.size, 0, none⟩ = some (.string x.name) := cellB hb (by simp [go_sem])
    have y1 : w1.cell? ⟨w.heap.size, 1, none⟩ = some lv := cellB hb (by simp [go_sem])
    have hz1 : w.heap.size < w1.heap.size := by have := hb.size; simp at this; omega
    clear hb
    go_wp2_with fail
    refine (arrangeCost_any _ lv _ x ns b _ ⟨rfl, hlv.mono hbw⟩ (Ints.mono hn hbw) AV.out.1 (set_in AV.out.2.1) AV.out.2.2 ok.1 _ rfl).mono ?_
    rintro e w2 ⟨rfl, h2⟩
    go_wp2
    go_ret2
    exact ⟨by rw [E.out, A0.out]; rfl, hbw.trans (h2.mono hbw.size)⟩
  · have E := Lib.hid (show acoV x ns b = 0 by unfold acoV; rw [if_neg ga])
    have d0 : (askC x ns b != 0) = true := by simpa using ga
    clear ga
    go_enter Try.func19, Try.ntmps19
    go_wp2_with fail
    refine (arranged_any _ lv _ x ns b _ ⟨rfl, hlv.mono (by (repeat (first | with_reducible exact Below.refl _ _ | with_reducible exact hbw | (with_reducible refine Below.setCell ?_ ?_ _; rotate_left; · first | exact Nat.le_refl _ | omega | (simp; done) | (simp; omega)) | (with_reducible refine Below.alloc ?_ ?_ _; rotate_left; · first | exact Nat.le_refl _ | omega | (simp; done) | (simp; omega)) | with_reducible refine below_drewN ?_ _ | with_reducible refine Below.drew ?_)))⟩ ok.1 (Ints.mono hn (by (repeat (first | with_reducible exact Below.refl _ _ | with_reducible exact hbw | (with_reducible refine Below.setCell ?_ ?_ _; rotate_left; · first | exact Nat.le_refl _ | omega | (simp; done) | (simp; omega)) | (with_reducible refine Below.alloc ?_ ?_ _; rotate_left; · first | exact Nat.le_refl _ | omega | (simp; done) | (simp; omega)) | with_reducible refine below_drewN ?_ _ | with_reducible refine Below.drew ?_))))).mono ?_
    rintro e w1 ⟨rfl, hb⟩
    have hbw : Below w.heap.size w w1 := Below.trans (by (repeat (first | with_reducible exact Below.refl _ _ | with_reducible exact hbw | (with_reducible refine Below.setCell ?_ ?_ _; rotate_left; · first | exact Nat.le_refl _ | omega | (simp; done) | (simp; omega)) | (with_reducible refine Below.alloc ?_ ?_ _; rotate_left; · first | exact Nat.le_refl _ | omega | (simp; done) | (simp; omega)) | with_reducible refine below_drewN ?_ _ | with_reducible refine Below.drew ?_))) (hb.mono (by simp <;> omega))
    have y0 : w1.cell? ⟨w.heap.size, 0, none⟩ = some (.string x.name) := cellB hb (by simp [go_sem])
    have y1 : w1.cell? ⟨w.heap.size, 1, none⟩ = some lv := cellB hb (by simp [go_sem])
    have hz1 : w.heap.size < w1.heap.size := by have := hb.size; simp at this; omega
    clear hb
    go_wp2
    go_ret2
    exact ⟨by rw [E.out]; rfl, hbw⟩

/-- The best shift and its cost, of the first k that are tried. -/
noncomputable def bsTo (x : TunD) (ns : List Int) : Nat → Int × Int
  | 0 => (0, arC x ns 0)
  | k + 1 => if arC x ns (shK k) < (bsTo x ns k).2 then (shK k, arC x ns (shK k)) else bsTo x ns k
theorem bs_yes {x : TunD} {ns : List Int} {k : Nat} (h : arC x ns (shK k) < (bsTo x ns k).2) : bsTo x ns (k + 1) = (shK k, arC x ns (shK k)) := by
  conv => lhs; unfold bsTo
  rw [if_pos h]
theorem bs_no {x : TunD} {ns : List Int} {k : Nat} (h : ¬ arC x ns (shK k) < (bsTo x ns k).2) : bsTo x ns (k + 1) = bsTo x ns k := by
  conv => lhs; unfold bsTo
  rw [if_neg h]
theorem bs_one (x : TunD) (ns : List Int) : bsTo x ns 1 = (0, arC x ns 0) := by
  rw [bs_no]
  · rfl
  · show ¬ arC x ns (shK 0) < arC x ns 0
    have : shK 0 = 0 := rfl
    rw [this]; omega
noncomputable def bsN (x : TunD) (ns : List Int) : Int := if askC x ns 0 = 0 then (bsTo x ns 49).1 else 0
noncomputable def bsL (x : TunD) (ns : List Int) : Int := if askC x ns 0 = 0 then (bsTo x ns 49).2 else 0

set_option maxHeartbeats 2000000 in
theorem specBestShift_any (v : Value) (x : TunD) (v2 : Value) (ns : List Int) (w : World) (h : RdTun w v x) (ok : x.ok) (_ : x.tones.length ≤ 1048576) (hn : RdInts w v2 ns) (_ : ∀ x ∈ ns, I64 x) (_ : ns.length ≤ 1048576) :
    Calls Try.prog 20 #[v, v2] w fun e w' => e = .returned (.tuple #[.int .i64 (bsN x ns), .int .i64 (bsL x ns), .int .i64 (askC x ns 0)]) ∧ Below w.heap.size w w' := by
  obtain ⟨lv, rfl, hlv⟩ := h
  have hn : Ints w v2 ns := hn
  obtain ⟨a1, cs1, rfl, _, _, _⟩ := id hn
  by_cases ga : askC x ns 0 = 0
  · have AV := Lib.hid (ask_zero.1 ga)
    have E := Lib.hid (show bsN x ns = (bsTo x ns 49).1 ∧ bsL x ns = (bsTo x ns 49).2 by unfold bsN bsL; rw [if_pos ga, if_pos ga]; exact ⟨rfl, rfl⟩)
    have d0 : (askC x ns 0 != 0) = false := by simpa using ga
    have A0 := Lib.hid ga; clear ga
    go_enter Try.func20, Try.ntmps20
    go_wp2_with fail
    refine (l26Ask_any _ lv _ x ns 0 _ ⟨by simp [go_sem], by simp [go_sem], hlv.mono (by (repeat (first | with_reducible exact Below.refl _ _ | with_reducible exact hbw | (with_reducible refine Below.setCell ?_ ?_ _; rotate_left; · first | exact Nat.le_refl _ | omega | (simp; done) | (simp; omega)) | (with_reducible refine Below.alloc ?_ ?_ _; rotate_left; · first | exact Nat.le_refl _ | omega | (simp; done) | (simp; omega)) | with_reducible refine below_drewN ?_ _ | with_reducible refine Below.drew ?_))), ok.1⟩ (Ints.mono hn (by (repeat (first | with_reducible exact Below.refl _ _ | with_reducible exact hbw | (with_reducible refine Below.setCell ?_ ?_ _; rotate_left; · first | exact Nat.le_refl _ | omega | (simp; done) | (simp; omega)) | (with_reducible refine Below.alloc ?_ ?_ _; rotate_left; · first | exact Nat.le_refl _ | omega | (simp; done) | (simp; omega)) | with_reducible refine below_drewN ?_ _ | with_reducible refine Below.drew ?_))))).mono ?_
    rintro e w1 ⟨rfl, hb⟩
    have hbw : Below w.heap.size w w1 := Below.trans (by (repeat (first | with_reducible exact Below.refl _ _ | with_reducible exact hbw | (with_reducible refine Below.setCell ?_ ?_ _; rotate_left; · first | exact Nat.le_refl _ | omega | (simp; done) | (simp; omega)) | (with_reducible refine Below.alloc ?_ ?_ _; rotate_left; · first | exact Nat.le_refl _ | omega | (simp; done) | (simp; omega)) | with_reducible refine below_drewN ?_ _ | with_reducible refine Below.drew ?_))) (hb.mono (by simp <;> omega))
    have y0 : w1.cell? ⟨w.heap.size, 0, none⟩ = some (.string x.name) := cellB hb (by simp [go_sem])
    have y1 : w1.cell? ⟨w.heap.size, 1, none⟩ = some lv := cellB hb (by simp [go_sem])
    have hz1 : w.heap.size < w1.heap.size := by have := hb.size; simp at this; omega
    clear hb
    go_wp2_with fail
    refine (l26Cost_any _ lv _ x ns 0 _ ⟨y0, y1, hlv.mono hbw, ok.1⟩ (Ints.mono hn hbw) AV.out.1 (set_in AV.out.2.1) AV.out.2.2 _ rfl).mono ?_
    rintro e w2 ⟨rfl, h2⟩
    have hbw2 := hbw.trans (h2.mono hbw.size)
    have y0 := cellB h2 y0
    have y1 := cellB h2 y1
    have HB2 := Lib.hid hbw2
    have hzz := h2.size
    clear h2 hbw hbw2
    go_wp2_with fail
    go_loopw [8, 9, 10, 11] (fun b l i _ wr => ∃ k : Nat, 1 ≤ k ∧ k ≤ 49 ∧ i = .int .i64 (k : Int) ∧ b = .int .i64 (bsTo x ns k).1 ∧ l = .int .i64 (bsTo x ns k).2 ∧ Below w2.heap.size w2 wr) (fun _ _ i _ _ => 50 - (intOf i).toNat)
    case atStart => exact ⟨1, Nat.le_refl _, by omega, by go_num, by rw [bs_one], by rw [bs_one], Below.refl _ _⟩
    case round =>
      obtain ⟨k, hk1, hk, rfl, rfl, rfl, hb⟩ := hrel
      have hbw := HB2.out.trans (hb.mono HB2.out.size)
      have y0 := cellB hb y0
      have y1 := cellB hb y1
      have hz := hb.size
      have lw : w.heap.size < wr.heap.size := by omega
      by_cases hlt : k ≤ 48
      · have dk : decide ((k : Int) ≤ 48) = true := by simp; omega
        have HW := Lib.hid hbw; clear hbw
        go_wp2_with fail
        refine (l26Order_any k _ hlt).mono ?_
        rintro e w3 ⟨rfl, hw3⟩
        subst w3
        obtain ⟨cst, hcst⟩ : ∃ cst, cst = arC x ns (shK k) := ⟨_, rfl⟩
        have HCST := Lib.hid hcst
        clear hcst
        go_wp2_with fail
        refine (l26Cost_any _ lv _ x ns (shK k) _ ⟨y0, y1, hlv.mono HW.out, ok.1⟩ (Ints.mono hn HW.out) AV.out.1 (set_in AV.out.2.1) (shK_bd hlt) cst HCST.out).mono ?_
        rintro e w4 ⟨rfl, h4⟩
        have hb4 := hb.trans (h4.mono hz)
        by_cases g : cst < (bsTo x ns k).2
        · have d1 : decide (cst < (bsTo x ns k).2) = true := by simpa using g
          have S := Lib.hid (bs_yes (x := x) (ns := ns) (k := k) (by rw [← HCST.out]; exact g))
          clear g
          go_wp2_with fail
          refine (l26Order_any k _ hlt).mono ?_
          rintro e w5 ⟨rfl, hw5⟩
          subst w5
          go_wp2
          go_roundw
          case rel => exact ⟨k + 1, by omega, by omega, by go_num, by rw [S.out], by rw [S.out, HCST.out], hb4⟩
          case measure => simp [intOf] <;> omega
        · have d1 : decide (cst < (bsTo x ns k).2) = false := by simpa using g
          have S := Lib.hid (bs_no (x := x) (ns := ns) (k := k) (by rw [← HCST.out]; exact g))
          clear g
          go_wp2
          go_roundw
          case rel => exact ⟨k + 1, by omega, by omega, by go_num, by rw [S.out], by rw [S.out], hb4⟩
          case measure => simp [intOf] <;> omega
      · obtain rfl : k = 49 := by omega
        go_wp2
        go_ret3
        exact ⟨by rw [E.out.1, E.out.2, A0.out]; rfl, hbw⟩
  · have E := Lib.hid (show bsN x ns = 0 ∧ bsL x ns = 0 by unfold bsN bsL; rw [if_neg ga, if_neg ga]; exact ⟨rfl, rfl⟩)
    have d0 : (askC x ns 0 != 0) = true := by simpa using ga
    clear ga
    go_enter Try.func20, Try.ntmps20
    go_wp2_with fail
    refine (l26Ask_any _ lv _ x ns 0 _ ⟨by simp [go_sem], by simp [go_sem], hlv.mono (by (repeat (first | with_reducible exact Below.refl _ _ | with_reducible exact hbw | (with_reducible refine Below.setCell ?_ ?_ _; rotate_left; · first | exact Nat.le_refl _ | omega | (simp; done) | (simp; omega)) | (with_reducible refine Below.alloc ?_ ?_ _; rotate_left; · first | exact Nat.le_refl _ | omega | (simp; done) | (simp; omega)) | with_reducible refine below_drewN ?_ _ | with_reducible refine Below.drew ?_))), ok.1⟩ (Ints.mono hn (by (repeat (first | with_reducible exact Below.refl _ _ | with_reducible exact hbw | (with_reducible refine Below.setCell ?_ ?_ _; rotate_left; · first | exact Nat.le_refl _ | omega | (simp; done) | (simp; omega)) | (with_reducible refine Below.alloc ?_ ?_ _; rotate_left; · first | exact Nat.le_refl _ | omega | (simp; done) | (simp; omega)) | with_reducible refine below_drewN ?_ _ | with_reducible refine Below.drew ?_))))).mono ?_
    rintro e w1 ⟨rfl, hb⟩
    have hbw : Below w.heap.size w w1 := Below.trans (by (repeat (first | with_reducible exact Below.refl _ _ | with_reducible exact hbw | (with_reducible refine Below.setCell ?_ ?_ _; rotate_left; · first | exact Nat.le_refl _ | omega | (simp; done) | (simp; omega)) | (with_reducible refine Below.alloc ?_ ?_ _; rotate_left; · first | exact Nat.le_refl _ | omega | (simp; done) | (simp; omega)) | with_reducible refine below_drewN ?_ _ | with_reducible refine Below.drew ?_))) (hb.mono (by simp <;> omega))
    have y0 : w1.cell? ⟨w.heap.size, 0, none⟩ = some (.string x.name) := cellB hb (by simp [go_sem])
    have y1 : w1.cell? ⟨w.heap.size, 1, none⟩ = some lv := cellB hb (by simp [go_sem])
    have hz1 : w.heap.size < w1.heap.size := by have := hb.size; simp at this; omega
    clear hb
    go_wp2
    go_ret3
    exact ⟨by rw [E.out.1, E.out.2]; rfl, hbw⟩

set_option maxHeartbeats 2000000 in
theorem implBestShift_any (v : Value) (x : TunD) (v2 : Value) (ns : List Int) (w : World) (h : RdTun w v x) (ok : x.ok) (_ : x.tones.length ≤ 1048576) (hn : RdInts w v2 ns) (_ : ∀ x ∈ ns, I64 x) (_ : ns.length ≤ 1048576) :
    Calls Try.prog 21 #[v, v2] w fun e w' => e = .returned (.tuple #[.int .i64 (bsN x ns), .int .i64 (bsL x ns), .int .i64 (askC x ns 0)]) ∧ Below w.heap.size w w' := by
  obtain ⟨lv, rfl, hlv⟩ := h
  have hn : Ints w v2 ns := hn
  obtain ⟨a1, cs1, rfl, _, _, _⟩ := id hn
  by_cases ga : askC x ns 0 = 0
  · have AV := Lib.hid (ask_zero.1 ga)
    have E := Lib.hid (show bsN x ns = (bsTo x ns 49).1 ∧ bsL x ns = (bsTo x ns 49).2 by unfold bsN bsL; rw [if_pos ga, if_pos ga]; exact ⟨rfl, rfl⟩)
    have d0 : (askC x ns 0 != 0) = false := by simpa using ga
    have A0 := Lib.hid ga; clear ga
    go_enter Try.func21, Try.ntmps21
    go_wp2_with fail
    refine (arranged_any _ lv _ x ns 0 _ ⟨rfl, hlv.mono (by (repeat (first | with_reducible exact Below.refl _ _ | with_reducible exact hbw | (with_reducible refine Below.setCell ?_ ?_ _; rotate_left; · first | exact Nat.le_refl _ | omega | (simp; done) | (simp; omega)) | (with_reducible refine Below.alloc ?_ ?_ _; rotate_left; · first | exact Nat.le_refl _ | omega | (simp; done) | (simp; omega)) | with_reducible refine below_drewN ?_ _ | with_reducible refine Below.drew ?_)))⟩ ok.1 (Ints.mono hn (by (repeat (first | with_reducible exact Below.refl _ _ | with_reducible exact hbw | (with_reducible refine Below.setCell ?_ ?_ _; rotate_left; · first | exact Nat.le_refl _ | omega | (simp; done) | (simp; omega)) | (with_reducible refine Below.alloc ?_ ?_ _; rotate_left; · first | exact Nat.le_refl _ | omega | (simp; done) | (simp; omega)) | with_reducible refine below_drewN ?_ _ | with_reducible refine Below.drew ?_))))).mono ?_
    rintro e w1 ⟨rfl, hb⟩
    have hbw : Below w.heap.size w w1 := Below.trans (by (repeat (first | with_reducible exact Below.refl _ _ | with_reducible exact hbw | (with_reducible refine Below.setCell ?_ ?_ _; rotate_left; · first | exact Nat.le_refl _ | omega | (simp; done) | (simp; omega)) | (with_reducible refine Below.alloc ?_ ?_ _; rotate_left; · first | exact Nat.le_refl _ | omega | (simp; done) | (simp; omega)) | with_reducible refine below_drewN ?_ _ | with_reducible refine Below.drew ?_))) (hb.mono (by simp <;> omega))
    have y0 : w1.cell? ⟨w.heap.size, 0, none⟩ = some (.string x.name) := cellB hb (by simp [go_sem])
    have y1 : w1.cell? ⟨w.heap.size, 1, none⟩ = some lv := cellB hb (by simp [go_sem])
    have hz1 : w.heap.size < w1.heap.size := by have := hb.size; simp at this; omega
    clear hb
    go_wp2_with fail
    refine (arrangeCost_any _ lv _ x ns 0 _ ⟨rfl, hlv.mono hbw⟩ (Ints.mono hn hbw) AV.out.1 (set_in AV.out.2.1) AV.out.2.2 ok.1 _ rfl).mono ?_
    rintro e w2 ⟨rfl, h2⟩
    have hbw2 := hbw.trans (h2.mono hbw.size)
    have y0 := cellB h2 y0
    have y1 := cellB h2 y1
    have HB2 := Lib.hid hbw2
    have hzz := h2.size
    clear h2 hbw hbw2
    go_wp2_with fail
    refine (shifts_any _).mono ?_
    rintro e w3 ⟨vL, rfl, hoL, hbL⟩
    have HB3 := Lib.hid (HB2.out.trans (hbL.mono HB2.out.size))
    have hL : Sl w3 vL 49 ((shL 49).map (Value.int .i64)) := Sl.of_owns hoL
    obtain ⟨b9, c9, rfl, _, _, _⟩ := id hL
    have y0 := cellB hbL y0
    have y1 := cellB hbL y1
    have hzL := hbL.size
    clear hoL hbL
    go_wp2_with fail
    go_loopw [8, 9, 24, 11, 12] (fun b l i _ _ wr => ∃ k : Nat, k ≤ 49 ∧ i = .int .i64 (k : Int) ∧ b = .int .i64 (bsTo x ns k).1 ∧ l = .int .i64 (bsTo x ns k).2 ∧ Below w3.heap.size w3 wr) (fun _ _ i _ _ _ => 49 - (intOf i).toNat)
    case atStart => exact ⟨0, by omega, by go_num, rfl, rfl, Below.refl _ _⟩
    case round =>
      obtain ⟨k, hk, rfl, rfl, rfl, hb⟩ := hrel
      have hbw := HB3.out.trans (hb.mono HB3.out.size)
      have y0 := cellB hb y0
      have y1 := cellB hb y1
      have hz := hb.size
      have lw : w.heap.size < wr.heap.size := by omega
      by_cases hlt : k ≤ 48
      · have dk : decide ((k : Int) < 49) = true := by simp; omega
        have HW := Lib.hid hbw; clear hbw
        obtain ⟨p, o, rfl, c9⟩ := (hL.mono hb).cells (by simp [shL_len])
        have hp : wr.cell? ⟨p, o + k, none⟩ = some (.int .i64 (shK k)) := c9 k _ (by rw [List.getElem?_map, List.getElem?_eq_getElem (by rw [shL_len]; omega), shL_get]; rfl)
        have lp := World.block_lt_of_cell? _ _ hp
        simp only at lp
        obtain ⟨cst, hcst⟩ : ∃ cst, cst = arC x ns (shK k) := ⟨_, rfl⟩
        have HCST := Lib.hid hcst
        clear hcst c9
        by_cases g : cst < (bsTo x ns k).2
        · have d1 : decide (cst < (bsTo x ns k).2) = true := by simpa using g
          have S := Lib.hid (bs_yes (x := x) (ns := ns) (k := k) (by rw [← HCST.out]; exact g))
          clear g
          go_wp2_with fail
          refine (arrangeCost_any _ lv _ x ns (shK k) _ ⟨rfl, hlv.mono HW.out⟩ (Ints.mono hn HW.out) AV.out.1 (set_in AV.out.2.1) (shK_bd hlt) ok.1 cst HCST.out).mono ?_
          rintro e w4 ⟨rfl, h4⟩
          have hb4 := hb.trans (h4.mono hz)
          go_wp2
          go_roundw
          case rel => exact ⟨k + 1, by omega, by go_num, by rw [S.out], by rw [S.out, HCST.out], hb4⟩
          case measure => simp [intOf] <;> omega
        · have d1 : decide (cst < (bsTo x ns k).2) = false := by simpa using g
          have S := Lib.hid (bs_no (x := x) (ns := ns) (k := k) (by rw [← HCST.out]; exact g))
          clear g
          go_wp2_with fail
          refine (arrangeCost_any _ lv _ x ns (shK k) _ ⟨rfl, hlv.mono HW.out⟩ (Ints.mono hn HW.out) AV.out.1 (set_in AV.out.2.1) (shK_bd hlt) ok.1 cst HCST.out).mono ?_
          rintro e w4 ⟨rfl, h4⟩
          have hb4 := hb.trans (h4.mono hz)
          go_wp2
          go_roundw
          case rel => exact ⟨k + 1, by omega, by go_num, by rw [S.out], by rw [S.out], hb4⟩
          case measure => simp [intOf] <;> omega
      · obtain rfl : k = 49 := by omega
        go_wp2
        go_ret3
        exact ⟨by rw [E.out.1, E.out.2, A0.out]; rfl, hbw⟩
  · have E := Lib.hid (show bsN x ns = 0 ∧ bsL x ns = 0 by unfold bsN bsL; rw [if_neg ga, if_neg ga]; exact ⟨rfl, rfl⟩)
    have d0 : (askC x ns 0 != 0) = true := by simpa using ga
    clear ga
    go_enter Try.func21, Try.ntmps21
    go_wp2_with fail
    refine (arranged_any _ lv _ x ns 0 _ ⟨rfl, hlv.mono (by (repeat (first | with_reducible exact Below.refl _ _ | with_reducible exact hbw | (with_reducible refine Below.setCell ?_ ?_ _; rotate_left; · first | exact Nat.le_refl _ | omega | (simp; done) | (simp; omega)) | (with_reducible refine Below.alloc ?_ ?_ _; rotate_left; · first | exact Nat.le_refl _ | omega | (simp; done) | (simp; omega)) | with_reducible refine below_drewN ?_ _ | with_reducible refine Below.drew ?_)))⟩ ok.1 (Ints.mono hn (by (repeat (first | with_reducible exact Below.refl _ _ | with_reducible exact hbw | (with_reducible refine Below.setCell ?_ ?_ _; rotate_left; · first | exact Nat.le_refl _ | omega | (simp; done) | (simp; omega)) | (with_reducible refine Below.alloc ?_ ?_ _; rotate_left; · first | exact Nat.le_refl _ | omega | (simp; done) | (simp; omega)) | with_reducible refine below_drewN ?_ _ | with_reducible refine Below.drew ?_))))).mono ?_
    rintro e w1 ⟨rfl, hb⟩
    have hbw : Below w.heap.size w w1 := Below.trans (by (repeat (first | with_reducible exact Below.refl _ _ | with_reducible exact hbw | (with_reducible refine Below.setCell ?_ ?_ _; rotate_left; · first | exact Nat.le_refl _ | omega | (simp; done) | (simp; omega)) | (with_reducible refine Below.alloc ?_ ?_ _; rotate_left; · first | exact Nat.le_refl _ | omega | (simp; done) | (simp; omega)) | with_reducible refine below_drewN ?_ _ | with_reducible refine Below.drew ?_))) (hb.mono (by simp <;> omega))
    have y0 : w1.cell? ⟨w.heap.size, 0, none⟩ = some (.string x.name) := cellB hb (by simp [go_sem])
    have y1 : w1.cell? ⟨w.heap.size, 1, none⟩ = some lv := cellB hb (by simp [go_sem])
    have hz1 : w.heap.size < w1.heap.size := by have := hb.size; simp at this; omega
    clear hb
    go_wp2
    go_ret3
    exact ⟨by rw [E.out.1, E.out.2]; rfl, hbw⟩

end Go.Proofs.Ytemmnjokojgjaaa
/- Contracts of ArrangeTune of both packages. -/
set_option linter.unusedSimpArgs false
set_option linter.unnecessarySimpa false
set_option linter.unusedVariables false
set_option maxRecDepth 100000
namespace Go.Proofs.Ytemmnjokojgjaaa
open Go.RowKit

set_option maxHeartbeats 2000000 in
theorem implArrangeTune_any (v : Value) (x : TunD) (v2 : Value) (ns : List Int) (b : Int) (w : World) (h : RdTun w v x) (ok : x.ok) (_ : x.tones.length ≤ 1048576) (hn : RdInts w v2 ns) (_ : ∀ x ∈ ns, I64 x) (_ : ns.length ≤ 1048576) (_ : I64 b) :
    Calls Try.prog 12 #[v, v2, .int .i64 b] w fun e w' => ∃ v', e = .returned (.tuple #[v', .int .i64 (atM x ns b), .int .i64 (atD x ns b), .int .i64 (askC x ns b)]) ∧ OwnTun w.heap.size w'.heap.size w' v' (atV x ns b) ∧ Below w.heap.size w w' := by
  obtain ⟨lv, rfl, hlv⟩ := h
  have hn : Ints w v2 ns := hn
  obtain ⟨a1, cs1, rfl, _, _, _⟩ := id hn
  by_cases ga : askC x ns b = 0
  · have AV := Lib.hid (ask_zero.1 ga)
    have E := Lib.hid (at_yes ga)
    have d0 : (askC x ns b != 0) = false := by simpa using ga
    have A0 := Lib.hid ga; clear ga
    go_enter Try.func12, Try.ntmps12
    go_wp2_with fail
    refine (arranged_any _ lv _ x ns b _ ⟨rfl, hlv.mono (by (repeat (first | with_reducible exact Below.refl _ _ | with_reducible exact hbw | (with_reducible refine Below.setCell ?_ ?_ _; rotate_left; · first | exact Nat.le_refl _ | omega | (simp; done) | (simp; omega)) | (with_reducible refine Below.alloc ?_ ?_ _; rotate_left; · first | exact Nat.le_refl _ | omega | (simp; done) | (simp; omega)) | with_reducible refine below_drewN ?_ _ | with_reducible refine Below.drew ?_)))⟩ ok.1 (Ints.mono hn (by (repeat (first | with_reducible exact Below.refl _ _ | with_reducible exact hbw | (with_reducible refine Below.setCell ?_ ?_ _; rotate_left; · first | exact Nat.le_refl _ | omega | (simp; done) | (simp; omega)) | (with_reducible refine Below.alloc ?_ ?_ _; rotate_left; · first | exact Nat.le_refl _ | omega | (simp; done) | (simp; omega)) | with_reducible refine below_drewN ?_ _ | with_reducible refine Below.drew ?_))))).mono ?_
    rintro e w1 ⟨rfl, hb⟩
    have hbw : Below w.heap.size w w1 := Below.trans (by (repeat (first | with_reducible exact Below.refl _ _ | with_reducible exact hbw | (with_reducible refine Below.setCell ?_ ?_ _; rotate_left; · first | exact Nat.le_refl _ | omega | (simp; done) | (simp; omega)) | (with_reducible refine Below.alloc ?_ ?_ _; rotate_left; · first | exact Nat.le_refl _ | omega | (simp; done) | (simp; omega)) | with_reducible refine below_drewN ?_ _ | with_reducible refine Below.drew ?_))) (hb.mono (by simp <;> omega))
    have y0 : w1.cell? ⟨w.heap.size, 0, none⟩ = some (.string x.name) := cellB hb (by simp [go_sem])
    have y1 : w1.cell? ⟨w.heap.size, 1, none⟩ = some lv := cellB hb (by simp [go_sem])
    have r0 : w1.cell? ⟨w.heap.size + 1, 0, none⟩ = some (.string ⟨#[]⟩) := cellB hb (by simp [go_sem])
    have r1 : w1.cell? ⟨w.heap.size + 1, 1, none⟩ = some (.slice none 0 0) := cellB hb (by simp [go_sem])
    have f0 : w1.frozen? ⟨w.heap.size + 1, 0, none⟩ = false := frozenL hb (by simp) (by simp [go_sem])
    have f1 : w1.frozen? ⟨w.heap.size + 1, 1, none⟩ = false := frozenL hb (by simp) (by simp [go_sem])
    have hz1 : w.heap.size + 1 < w1.heap.size := by have := hb.size; simp at this; omega
    clear hb
    go_wp2_with fail
    refine (arrange_any _ lv _ x ns b _ ⟨rfl, hlv.mono hbw⟩ (Ints.mono hn hbw) AV.out.1 (set_in AV.out.2.1) AV.out.2.2 ok.1).mono ?_
    rintro e w2 ⟨v2', rfl, ho2, hb2⟩
    replace ho2 : OwnTun w1.heap.size w2.heap.size w2 v2' (arT x ns b) := ho2
    have HC := Lib.hid (show mvCnt (arTo ns b x.tones x.tones.length).2 (arTo ns b x.tones x.tones.length).1.length = arM x ns b ∧ (x.tones.length : Int) - (arTo ns b x.tones x.tones.length).1.length = arD x ns b from ⟨rfl, rfl⟩)
    rw [HC.out.1, HC.out.2]
    obtain ⟨l2, rfl, ho2⟩ := ho2
    obtain ⟨a2, c2, rfl⟩ := ho2.form
    have r0 := cellB hb2 r0
    have r1 := cellB hb2 r1
    have f0 := frozenL hb2 (by simp only; omega) f0
    have f1 := frozenL hb2 (by simp only; omega) f1
    have hz2 := hb2.size
    have l9 : w.heap.size + 1 < w2.heap.size := by omega
    have l10 : w.heap.size + 1 < w2.heap.size + 1 := by omega
    have HO2 := Lib.hid ho2
    have HB2 := Lib.hid (hbw.trans (hb2.mono hbw.size))
    clear ho2 hb2
    go_wp2
    refine bodyPost_ret (v := .tuple #[.agg #[.string (arT x ns b).name, .slice a2 (arT x ns b).tones.length c2], .int .i64 (arM x ns b), .int .i64 (arD x ns b), .int .i64 0]) (by simp [results, Try.results12, go_sem, l9, l10, r0, r1, f0, f1]) rfl ⟨_, by rw [E.out.2.1, E.out.2.2, A0.out], ?_, ?_⟩
    · rw [E.out.1]
      refine ⟨_, rfl, ?_⟩
      refine (HO2.out.touch (B' := w.heap.size + 1) (E' := w.heap.size + 2) ?_ (Or.inr (by omega))).wide (by omega) (by simp)
      have htc := Touch.refl (w.heap.size + 1) (w.heap.size + 2) w2
      (repeat (first | with_reducible exact Touch.refl _ _ _ | with_reducible exact htc | (with_reducible refine Touch.setCell ?_ ?_ _; rotate_left; · (simp only; omega)) | (with_reducible refine Touch.setNew ?_ ?_ _; rotate_left; · (first | (simp only; omega) | (simp; done) | (simp; omega))) | with_reducible refine Touch.alloc ?_ _ | with_reducible refine Touch.drewN ?_ _ | with_reducible refine Touch.drew ?_))
    · have hbw := HB2.out
      (repeat (first | with_reducible exact Below.refl _ _ | with_reducible exact hbw | (with_reducible refine Below.setCell ?_ ?_ _; rotate_left; · first | exact Nat.le_refl _ | omega | (simp; done) | (simp; omega)) | (with_reducible refine Below.alloc ?_ ?_ _; rotate_left; · first | exact Nat.le_refl _ | omega | (simp; done) | (simp; omega)) | with_reducible refine below_drewN ?_ _ | with_reducible refine Below.drew ?_))
  · have E := Lib.hid (at_no ga)
    have d0 : (askC x ns b != 0) = true := by simpa using ga
    clear ga
    go_enter Try.func12, Try.ntmps12
    go_wp2_with fail
    refine (arranged_any _ lv _ x ns b _ ⟨rfl, hlv.mono (by (repeat (first | with_reducible exact Below.refl _ _ | with_reducible exact hbw | (with_reducible refine Below.setCell ?_ ?_ _; rotate_left; · first | exact Nat.le_refl _ | omega | (simp; done) | (simp; omega)) | (with_reducible refine Below.alloc ?_ ?_ _; rotate_left; · first | exact Nat.le_refl _ | omega | (simp; done) | (simp; omega)) | with_reducible refine below_drewN ?_ _ | with_reducible refine Below.drew ?_)))⟩ ok.1 (Ints.mono hn (by (repeat (first | with_reducible exact Below.refl _ _ | with_reducible exact hbw | (with_reducible refine Below.setCell ?_ ?_ _; rotate_left; · first | exact Nat.le_refl _ | omega | (simp; done) | (simp; omega)) | (with_reducible refine Below.alloc ?_ ?_ _; rotate_left; · first | exact Nat.le_refl _ | omega | (simp; done) | (simp; omega)) | with_reducible refine below_drewN ?_ _ | with_reducible refine Below.drew ?_))))).mono ?_
    rintro e w1 ⟨rfl, hb⟩
    have hbw : Below w.heap.size w w1 := Below.trans (by (repeat (first | with_reducible exact Below.refl _ _ | with_reducible exact hbw | (with_reducible refine Below.setCell ?_ ?_ _; rotate_left; · first | exact Nat.le_refl _ | omega | (simp; done) | (simp; omega)) | (with_reducible refine Below.alloc ?_ ?_ _; rotate_left; · first | exact Nat.le_refl _ | omega | (simp; done) | (simp; omega)) | with_reducible refine below_drewN ?_ _ | with_reducible refine Below.drew ?_))) (hb.mono (by simp <;> omega))
    have y0 : w1.cell? ⟨w.heap.size, 0, none⟩ = some (.string x.name) := cellB hb (by simp [go_sem])
    have y1 : w1.cell? ⟨w.heap.size, 1, none⟩ = some lv := cellB hb (by simp [go_sem])
    have r0 : w1.cell? ⟨w.heap.size + 1, 0, none⟩ = some (.string ⟨#[]⟩) := cellB hb (by simp [go_sem])
    have r1 : w1.cell? ⟨w.heap.size + 1, 1, none⟩ = some (.slice none 0 0) := cellB hb (by simp [go_sem])
    have f0 : w1.frozen? ⟨w.heap.size + 1, 0, none⟩ = false := frozenL hb (by simp) (by simp [go_sem])
    have f1 : w1.frozen? ⟨w.heap.size + 1, 1, none⟩ = false := frozenL hb (by simp) (by simp [go_sem])
    have hz1 : w.heap.size + 1 < w1.heap.size := by have := hb.size; simp at this; omega
    clear hb
    have l9 : w.heap.size + 1 < w1.heap.size := by omega
    go_wp2
    refine bodyPost_ret (v := .tuple #[.agg #[.string ⟨#[]⟩, .slice none 0 0], .int .i64 0, .int .i64 0, .int .i64 (askC x ns b)]) (by simp [results, Try.results12, go_sem, l9, r0, r1, f0, f1]) rfl ⟨_, by rw [E.out.2.1, E.out.2.2], ?_, ?_⟩
    · rw [E.out.1]; exact ownT_zero _ _ _
    · (repeat (first | with_reducible exact Below.refl _ _ | with_reducible exact hbw | (with_reducible refine Below.setCell ?_ ?_ _; rotate_left; · first | exact Nat.le_refl _ | omega | (simp; done) | (simp; omega)) | (with_reducible refine Below.alloc ?_ ?_ _; rotate_left; · first | exact Nat.le_refl _ | omega | (simp; done) | (simp; omega)) | with_reducible refine below_drewN ?_ _ | with_reducible refine Below.drew ?_))

set_option maxHeartbeats 2000000 in
theorem specArrangeTune_any (v : Value) (x : TunD) (v2 : Value) (ns : List Int) (b : Int) (w : World) (h : RdTun w v x) (ok : x.ok) (_ : x.tones.length ≤ 1048576) (hn : RdInts w v2 ns) (_ : ∀ x ∈ ns, I64 x) (_ : ns.length ≤ 1048576) (_ : I64 b) :
    Calls Try.prog 9 #[v, v2, .int .i64 b] w fun e w' => ∃ v', e = .returned (.tuple #[v', .int .i64 (atM x ns b), .int .i64 (atD x ns b), .int .i64 (askC x ns b)]) ∧ OwnTun w.heap.size w'.heap.size w' v' (atV x ns b) ∧ Below w.heap.size w w' := by
  obtain ⟨lv, rfl, hlv⟩ := h
  have hn : Ints w v2 ns := hn
  obtain ⟨a1, cs1, rfl, _, _, _⟩ := id hn
  by_cases ga : askC x ns b = 0
  · have AV := Lib.hid (ask_zero.1 ga)
    have E := Lib.hid (at_yes ga)
    have d0 : (askC x ns b != 0) = false := by simpa using ga
    have A0 := Lib.hid ga; clear ga
    go_enter Try.func9, Try.ntmps9
    go_wp2_with fail
    refine (l26Ask_any _ lv _ x ns b _ ⟨by simp [go_sem], by simp [go_sem], hlv.mono (by (repeat (first | with_reducible exact Below.refl _ _ | with_reducible exact hbw | (with_reducible refine Below.setCell ?_ ?_ _; rotate_left; · first | exact Nat.le_refl _ | omega | (simp; done) | (simp; omega)) | (with_reducible refine Below.alloc ?_ ?_ _; rotate_left; · first | exact Nat.le_refl _ | omega | (simp; done) | (simp; omega)) | with_reducible refine below_drewN ?_ _ | with_reducible refine Below.drew ?_))), ok.1⟩ (Ints.mono hn (by (repeat (first | with_reducible exact Below.refl _ _ | with_reducible exact hbw | (with_reducible refine Below.setCell ?_ ?_ _; rotate_left; · first | exact Nat.le_refl _ | omega | (simp; done) | (simp; omega)) | (with_reducible refine Below.alloc ?_ ?_ _; rotate_left; · first | exact Nat.le_refl _ | omega | (simp; done) | (simp; omega)) | with_reducible refine below_drewN ?_ _ | with_reducible refine Below.drew ?_))))).mono ?_
    rintro e w1 ⟨rfl, hb⟩
    have hbw : Below w.heap.size w w1 := Below.trans (by (repeat (first | with_reducible exact Below.refl _ _ | with_reducible exact hbw | (with_reducible refine Below.setCell ?_ ?_ _; rotate_left; · first | exact Nat.le_refl _ | omega | (simp; done) | (simp; omega)) | (with_reducible refine Below.alloc ?_ ?_ _; rotate_left; · first | exact Nat.le_refl _ | omega | (simp; done) | (simp; omega)) | with_reducible refine below_drewN ?_ _ | with_reducible refine Below.drew ?_))) (hb.mono (by simp <;> omega))
    have y0 : w1.cell? ⟨w.heap.size, 0, none⟩ = some (.string x.name) := cellB hb (by simp [go_sem])
    have y1 : w1.cell? ⟨w.heap.size, 1, none⟩ = some lv := cellB hb (by simp [go_sem])
    have r0 : w1.cell? ⟨w.heap.size + 1, 0, none⟩ = some (.string ⟨#[]⟩) := cellB hb (by simp [go_sem])
    have r1 : w1.cell? ⟨w.heap.size + 1, 1, none⟩ = some (.slice none 0 0) := cellB hb (by simp [go_sem])
    have f0 : w1.frozen? ⟨w.heap.size + 1, 0, none⟩ = false := frozenL hb (by simp) (by simp [go_sem])
    have f1 : w1.frozen? ⟨w.heap.size + 1, 1, none⟩ = false := frozenL hb (by simp) (by simp [go_sem])
    have hz1 : w.heap.size + 1 < w1.heap.size := by have := hb.size; simp at this; omega
    clear hb
    go_wp2_with fail
    refine (l26Arrange_any _ lv _ x ns b _ ⟨y0, y1, hlv.mono hbw, ok.1⟩ (Ints.mono hn hbw) AV.out.1 (set_in AV.out.2.1) AV.out.2.2).mono ?_
    rintro e w2 ⟨v2', rfl, ho2, hb2⟩
    obtain ⟨l2, rfl, ho2⟩ := ho2
    obtain ⟨a2, c2, rfl⟩ := ho2.form
    have r0 := cellB hb2 r0
    have r1 := cellB hb2 r1
    have f0 := frozenL hb2 (by simp only; omega) f0
    have f1 := frozenL hb2 (by simp only; omega) f1
    have hz2 := hb2.size
    have l9 : w.heap.size + 1 < w2.heap.size := by omega
    have l10 : w.heap.size + 1 < w2.heap.size + 1 := by omega
    have HO2 := Lib.hid ho2
    have HB2 := Lib.hid (hbw.trans (hb2.mono hbw.size))
    clear ho2 hb2
    go_wp2
    refine bodyPost_ret (v := .tuple #[.agg #[.string (arT x ns b).name, .slice a2 (arT x ns b).tones.length c2], .int .i64 (arM x ns b), .int .i64 (arD x ns b), .int .i64 0]) (by simp [results, Try.results9, go_sem, l9, l10, r0, r1, f0, f1]) rfl ⟨_, by rw [E.out.2.1, E.out.2.2, A0.out], ?_, ?_⟩
    · rw [E.out.1]
      refine ⟨_, rfl, ?_⟩
      refine (HO2.out.touch (B' := w.heap.size + 1) (E' := w.heap.size + 2) ?_ (Or.inr (by omega))).wide (by omega) (by simp)
      have htc := Touch.refl (w.heap.size + 1) (w.heap.size + 2) w2
      (repeat (first | with_reducible exact Touch.refl _ _ _ | with_reducible exact htc | (with_reducible refine Touch.setCell ?_ ?_ _; rotate_left; · (simp only; omega)) | (with_reducible refine Touch.setNew ?_ ?_ _; rotate_left; · (first | (simp only; omega) | (simp; done) | (simp; omega))) | with_reducible refine Touch.alloc ?_ _ | with_reducible refine Touch.drewN ?_ _ | with_reducible refine Touch.drew ?_))
    · have hbw := HB2.out
      (repeat (first | with_reducible exact Below.refl _ _ | with_reducible exact hbw | (with_reducible refine Below.setCell ?_ ?_ _; rotate_left; · first | exact Nat.le_refl _ | omega | (simp; done) | (simp; omega)) | (with_reducible refine Below.alloc ?_ ?_ _; rotate_left; · first | exact Nat.le_refl _ | omega | (simp; done) | (simp; omega)) | with_reducible refine below_drewN ?_ _ | with_reducible refine Below.drew ?_))
  · have E := Lib.hid (at_no ga)
    have d0 : (askC x ns b != 0) = true := by simpa using ga
    clear ga
    go_enter Try.func9, Try.ntmps9
    go_wp2_with fail
    refine (l26Ask_any _ lv _ x ns b _ ⟨by simp [go_sem], by simp [go_sem], hlv.mono (by (repeat (first | with_reducible exact Below.refl _ _ | with_reducible exact hbw | (with_reducible refine Below.setCell ?_ ?_ _; rotate_left; · first | exact Nat.le_refl _ | omega | (simp; done) | (simp; omega)) | (with_reducible refine Below.alloc ?_ ?_ _; rotate_left; · first | exact Nat.le_refl _ | omega | (simp; done) | (simp; omega)) | with_reducible refine below_drewN ?_ _ | with_reducible refine Below.drew ?_))), ok.1⟩ (Ints.mono hn (by (repeat (first | with_reducible exact Below.refl _ _ | with_reducible exact hbw | (with_reducible refine Below.setCell ?_ ?_ _; rotate_left; · first | exact Nat.le_refl _ | omega | (simp; done) | (simp; omega)) | (with_reducible refine Below.alloc ?_ ?_ _; rotate_left; · first | exact Nat.le_refl _ | omega | (simp; done) | (simp; omega)) | with_reducible refine below_drewN ?_ _ | with_reducible refine Below.drew ?_))))).mono ?_
    rintro e w1 ⟨rfl, hb⟩
    have hbw : Below w.heap.size w w1 := Below.trans (by (repeat (first | with_reducible exact Below.refl _ _ | with_reducible exact hbw | (with_reducible refine Below.setCell ?_ ?_ _; rotate_left; · first | exact Nat.le_refl _ | omega | (simp; done) | (simp; omega)) | (with_reducible refine Below.alloc ?_ ?_ _; rotate_left; · first | exact Nat.le_refl _ | omega | (simp; done) | (simp; omega)) | with_reducible refine below_drewN ?_ _ | with_reducible refine Below.drew ?_))) (hb.mono (by simp <;> omega))
    have y0 : w1.cell? ⟨w.heap.size, 0, none⟩ = some (.string x.name) := cellB hb (by simp [go_sem])
    have y1 : w1.cell? ⟨w.heap.size, 1, none⟩ = some lv := cellB hb (by simp [go_sem])
    have r0 : w1.cell? ⟨w.heap.size + 1, 0, none⟩ = some (.string ⟨#[]⟩) := cellB hb (by simp [go_sem])
    have r1 : w1.cell? ⟨w.heap.size + 1, 1, none⟩ = some (.slice none 0 0) := cellB hb (by simp [go_sem])
    have f0 : w1.frozen? ⟨w.heap.size + 1, 0, none⟩ = false := frozenL hb (by simp) (by simp [go_sem])
    have f1 : w1.frozen? ⟨w.heap.size + 1, 1, none⟩ = false := frozenL hb (by simp) (by simp [go_sem])
    have hz1 : w.heap.size + 1 < w1.heap.size := by have := hb.size; simp at this; omega
    clear hb
    have l9 : w.heap.size + 1 < w1.heap.size := by omega
    go_wp2
    refine bodyPost_ret (v := .tuple #[.agg #[.string ⟨#[]⟩, .slice none 0 0], .int .i64 0, .int .i64 0, .int .i64 (askC x ns b)]) (by simp [results, Try.results9, go_sem, l9, r0, r1, f0, f1]) rfl ⟨_, by rw [E.out.2.1, E.out.2.2], ?_, ?_⟩
    · rw [E.out.1]; exact ownT_zero _ _ _
    · (repeat (first | with_reducible exact Below.refl _ _ | with_reducible exact hbw | (with_reducible refine Below.setCell ?_ ?_ _; rotate_left; · first | exact Nat.le_refl _ | omega | (simp; done) | (simp; omega)) | (with_reducible refine Below.alloc ?_ ?_ _; rotate_left; · first | exact Nat.le_refl _ | omega | (simp; done) | (simp; omega)) | with_reducible refine below_drewN ?_ _ | with_reducible refine Below.drew ?_))

end Go.Proofs.Ytemmnjokojgjaaa
/- The laws' test of the length of their bytes. -/
set_option linter.unusedSimpArgs false
set_option linter.unnecessarySimpa false
set_option linter.unusedVariables false
set_option maxRecDepth 100000
namespace Go.Proofs.Ytemmnjokojgjaaa
open Go.RowKit

theorem b10Long_any (a : Option Addr) (n c : Nat) (w : World) (hn : n ≤ 9223372036854775807) : Calls Try.prog 22 #[.slice a n c] w fun e w' => e = .returned (.bool (decide (1048576 < (n : Int)))) ∧ w = w' := by
  by_cases g : 1048576 < (n : Int)
  · have d1 : decide (1048576 < (n : Int)) = true := by simpa using g
    have d2 : decide (1048576 < n) = true := by simp; omega
    have D := Lib.hid d1
    clear g
    go_enter Try.func22, Try.ntmps22
    go_wp2
    go_ret
    exact ⟨by rw [D.out]; rfl, rfl⟩
  · have d1 : decide (1048576 < (n : Int)) = false := by simpa using g
    have d2 : decide (1048576 < n) = false := by simp; omega
    have D := Lib.hid d1
    clear g
    go_enter Try.func22, Try.ntmps22
    go_wp2
    go_ret
    exact ⟨by rw [D.out]; rfl, rfl⟩

end Go.Proofs.Ytemmnjokojgjaaa
/- Contract of notesOf with the function that extraNotes hands it. -/
set_option linter.unusedSimpArgs false
set_option linter.unnecessarySimpa false
set_option linter.unusedVariables false
set_option maxRecDepth 100000
namespace Go.Proofs.Ytemmnjokojgjaaa
open Go.RowKit

/-- The notes of the tones with a property. -/
def sel (p : Ton → Bool) (ts : List Ton) : List Int := (ts.filter p).map Ton.note
theorem sel_zero (p : Ton → Bool) (ts : List Ton) : sel p (ts.take 0) = [] := rfl
theorem sel_yes {p : Ton → Bool} {ts : List Ton} {k : Nat} (h : k < ts.length) (hp : p ts[k] = true) : sel p (ts.take (k + 1)) = sel p (ts.take k) ++ [ts[k].note] := by
  unfold sel; rw [List.take_succ_eq_append_getElem h, List.filter_append, List.map_append]; simp [hp]
theorem sel_no {p : Ton → Bool} {ts : List Ton} {k : Nat} (h : k < ts.length) (hp : p ts[k] = false) : sel p (ts.take (k + 1)) = sel p (ts.take k) := by
  unfold sel; rw [List.take_succ_eq_append_getElem h, List.filter_append, List.map_append]; simp [hp]
theorem sel_len (p : Ton → Bool) (ts : List Ton) (k : Nat) : (sel p (ts.take k)).length ≤ k := by
  unfold sel; rw [List.length_map]; exact Nat.le_trans (List.length_filter_le _ _) (List.length_take_le _ _)
theorem sel_all (p : Ton → Bool) (ts : List Ton) {k : Nat} (h : ts.length ≤ k) : sel p (ts.take k) = sel p ts := by rw [List.take_of_length_le h]
theorem notesOfL_snoc (ns : List Int) (n : Int) : notesOfL (ns ++ [n]) = putI (notesOfL ns) n := by unfold notesOfL; rw [List.foldl_append]; rfl

def allT : Ton → Bool := fun _ => true
theorem allT_any (x : Ton) (w : World) :
    Calls Try.prog 92 #[.agg #[.int .i64 x.note, .int .i64 x.start, .int .i64 x.len]] w fun e w' => e = .returned (.bool true) ∧ Below w.heap.size w w' := by
  go_enter Try.func92, Try.ntmps92
  go_wp2
  go_ret
  refine ⟨rfl, ?_⟩
  (repeat (first | with_reducible exact Below.refl _ _ | with_reducible exact hbw | (with_reducible refine Below.setCell ?_ ?_ _; rotate_left; · first | exact Nat.le_refl _ | omega | (simp; done) | (simp; omega)) | (with_reducible refine Below.alloc ?_ ?_ _; rotate_left; · first | exact Nat.le_refl _ | omega | (simp; done) | (simp; omega)) | with_reducible refine below_drewN ?_ _ | with_reducible refine Below.drew ?_))
set_option maxHeartbeats 2000000 in
theorem notesAll_any (v lv : Value) (x : TunD) (w : World) (h : Tun w v lv x) (hs : x.tones.length ≤ 1048576) :
    Calls Try.prog 91 #[v, .func (.func 92) #[] #[]] w fun e w' => ∃ v', e = .returned v' ∧ OwnInts w.heap.size w'.heap.size w' v' (notesOfL (sel allT x.tones)) ∧ Below w.heap.size w w' := by
  obtain ⟨rfl, hlv⟩ := h
  obtain ⟨a, ca, rfl, hca, hcm, _⟩ := id hlv
  have hm : x.tones.length ≤ maxLen := by omega
  clear hca hcm
  unfold maxLen at hm
  go_enter Try.func91, Try.ntmps91
  go_wp2_with fail
  go_loopw [5, 11, 7, 17] (fun o i _ _ wr => ∃ (k : Nat) (a' : Option Addr) (c' : Nat), k ≤ x.tones.length ∧ i = .int .i64 k ∧ o = .slice a' (sel allT (x.tones.take k)).length c' ∧ wr.ownsRow w.heap.size 2 1 (.slice a' (sel allT (x.tones.take k)).length c') (sel allT (x.tones.take k)).length ((sel allT (x.tones.take k)).map (Value.int .i64)) ∧ Below w.heap.size w wr) (fun _ i _ _ _ => x.tones.length - (intOf i).toNat)
  case atStart => exact ⟨0, none, 0, Nat.zero_le _, rfl, rfl, owns_nil _ _ _ _, by (repeat (first | with_reducible exact Below.refl _ _ | with_reducible exact hbw | (with_reducible refine Below.setCell ?_ ?_ _; rotate_left; · first | exact Nat.le_refl _ | omega | (simp; done) | (simp; omega)) | (with_reducible refine Below.alloc ?_ ?_ _; rotate_left; · first | exact Nat.le_refl _ | omega | (simp; done) | (simp; omega)) | with_reducible refine below_drewN ?_ _ | with_reducible refine Below.drew ?_))⟩
  case round =>
    obtain ⟨k, a1, c1, hk, rfl, rfl, ho, hb⟩ := hrel
    by_cases hlt : k < x.tones.length
    · obtain ⟨b1, o1, rfl, hB1, u0, u1, u2⟩ := (hlv.mono hb).at hlt
      have l1 : b1 < wr.heap.size + 1 := by omega
      have S := Lib.hid (sel_yes (p := allT) hlt rfl)
      have hsl := sel_len allT x.tones k
      have hsz := hb.size
      go_wp2_with fail
      refine (allT_any x.tones[k] _).mono ?_
      rintro e w1 ⟨rfl, hb1⟩
      have y0 : w1.cell? ⟨wr.heap.size, 0, none⟩ = some (.int .i64 x.tones[k].note) := cellB hb1 (by simp [go_sem])
      have hz1 := World.block_lt_of_cell? _ _ y0
      simp only at hz1
      have hz2 : wr.heap.size < w1.heap.size + 1 := by omega
      have st : Below wr.heap.size wr w1 := Below.trans (by (repeat (first | with_reducible exact Below.refl _ _ | with_reducible exact hbw | (with_reducible refine Below.setCell ?_ ?_ _; rotate_left; · first | exact Nat.le_refl _ | omega | (simp; done) | (simp; omega)) | (with_reducible refine Below.alloc ?_ ?_ _; rotate_left; · first | exact Nat.le_refl _ | omega | (simp; done) | (simp; omega)) | with_reducible refine below_drewN ?_ _ | with_reducible refine Below.drew ?_))) (hb1.mono (by simp))
      have ho2 := owns_mono ho st
      have hb2 := hb.trans (st.mono hsz)
      have hsz2 := hb2.size
      clear hb1
      go_wp2_with (at_builtin; refine append_one rfl _ _ 25 rfl w.heap.size 2 (.int .i64 0) 1 8 Try.underlying25 info_int64 rfl (by decide) _ (sel allT (x.tones.take k)).length _ rfl ho2 [.int .i64 x.tones[k].note] rfl (by simp [Value.oneCell']) rfl (by omega) (by decide) hsz2 ?_)
      intro a' cap' w3 ho3 _ hb3
      go_wp2
      go_roundw
      case rel => exact ⟨k + 1, a', cap', by omega, by go_num, by rw [S.out]; simp, by rw [S.out]; simpa using ho3, hb2.trans hb3⟩
      case measure => simp [intOf] <;> omega
    · have E := Lib.hid (sel_all allT x.tones (show x.tones.length ≤ k by omega))
      rw [E.out] at ho
      have hsl := sel_len allT x.tones x.tones.length
      rw [sel_all _ _ (Nat.le_refl _)] at hsl
      obtain ⟨ns, hns⟩ : ∃ ns, ns = sel allT x.tones := ⟨_, rfl⟩
      rw [E.out]
      rw [← hns] at ho hsl ⊢
      clear E
      have HN := Lib.hid hns; clear hns
      have hsz := hb.size
      go_wp2_with fail
      refine (sortInts_any _ w.heap.size ns _ ho (by omega)).mono ?_
      rintro e w2 ⟨rfl, ho2, hg2⟩
      have hb2 : Below w.heap.size w w2 := hb.grown hg2 hsz (fun q hq => (ho.lt q hq).1)
      have hsz2 := hb2.size
      clear ho hg2
      go_wp2_with fail
      refine (compactInts_any _ w.heap.size ns.length (sortI ns) _ (sortI_len ns).symm ho2 (by rw [sortI_len]; omega)).mono ?_
      rintro e w3 ⟨v3, rfl, ho3, hg3, _⟩
      have hb3 : Below w.heap.size w w3 := hb2.grown hg3 hsz2 (fun q hq => (ho2.lt q hq).1)
      rw [notesOfL_eq, HN.out] at ho3
      go_wp2
      go_ret
      exact ⟨_, rfl, OwnRow.mk' ho3, hb3⟩

end Go.Proofs.Ytemmnjokojgjaaa
