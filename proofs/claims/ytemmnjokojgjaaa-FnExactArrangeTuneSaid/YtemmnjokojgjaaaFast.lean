/- Contracts of IndexFunc and ContainsFunc at tones, of tooSoon, fastRepeats, l26Fast and FastRepeats of both packages. -/
import Derived.Test.YtemmnjokojgjaaaMiss
import Derived.Test.YtemmnjokojgjaaaReg3
set_option linter.unusedSimpArgs false
set_option linter.unnecessarySimpa false
set_option linter.unusedVariables false
set_option maxRecDepth 100000
namespace Go.Proofs.Ytemmnjokojgjaaa
open Go.RowKit

/-- r is the first index with a property, or -1. -/
def Idx (P : Ton → Bool) (ts : List Ton) (r : Int) : Prop :=
  (r = -1 ∧ ∀ j (hj : j < ts.length), P ts[j] = false) ∨ ∃ (k : Nat) (hk : k < ts.length), r = (k : Int) ∧ P ts[k] = true ∧ ∀ j (hj : j < ts.length), j < k → P ts[j] = false
theorem Idx.any {P : Ton → Bool} {ts : List Ton} {r : Int} (h : Idx P ts r) : decide (0 ≤ r) = ts.any P := by
  rcases h with ⟨rfl, h⟩ | ⟨k, hk, rfl, h1, _⟩
  · have : ts.any P = false := by
      rw [List.any_eq_false]
      intro x hx
      obtain ⟨j, hj, rfl⟩ := List.getElem_of_mem hx
      rw [h j hj]; exact Bool.false_ne_true
    rw [this]; rfl
  · have : ts.any P = true := List.any_eq_true.2 ⟨_, List.getElem_mem hk, h1⟩
    rw [this]; simp

set_option maxHeartbeats 1000000 in
theorem idxF1_any (N : Nat) (p : Value) (P : Ton → Bool) (v : Value) (ts : List Ton) (w : World) (h : Tons w v ts)
    (hN : ∀ args w, Sem.run Try.prog (callFunc N args) w = .ok (.enter N args) w)
    (hF : ∀ k (hk : k < ts.length) (w1 : World), Below w.heap.size w w1 → Calls Try.prog N #[.agg #[.int .i64 ts[k].note, .int .i64 ts[k].start, .int .i64 ts[k].len], p] w1 fun e w2 => e = .returned (.bool (P ts[k])) ∧ Below w1.heap.size w1 w2) :
    Calls Try.prog 78 #[v, .func (.func N) #[] #[p]] w fun e w' => ∃ r : Int, e = .returned (.int .i64 r) ∧ Idx P ts r ∧ Below w.heap.size w w' := by
  obtain ⟨a, ca, rfl, hca, hcm, _⟩ := id h
  have hm : ts.length ≤ maxLen := by omega
  clear hca hcm
  unfold maxLen at hm
  have HF := Lib.hid hF; clear hF
  go_enter Try.func78, Try.ntmps78
  go_wp2_with fail
  go_loopw [8, 5] (fun i _ wr => ∃ k : Nat, k ≤ ts.length ∧ i = .int .i64 (k : Int) ∧ (∀ j (hj : j < ts.length), j < k → P ts[j] = false) ∧ Below w.heap.size w wr) (fun i _ _ => ts.length - (intOf i).toNat)
  case atStart => exact ⟨0, Nat.zero_le _, by go_num, by intro j hj h; omega, Below.refl _ _⟩
  case round =>
    obtain ⟨k, hk, rfl, ht, hb⟩ := hrel
    have HT := Lib.hid ht; clear ht
    by_cases hlt : k < ts.length
    · obtain ⟨b1, o1, rfl, hB1, d0, d1, d2⟩ := (h.mono hb).at hlt
      have hz := hb.size
      by_cases g : P ts[k] = true
      · have G := Lib.hid g; clear g
        go_wp2_with fail
        refine (HF.out k hlt _ hb).mono ?_
        rw [G.out]
        rintro e w1 ⟨rfl, hb1⟩
        go_wp2
        go_ret
        exact ⟨k, rfl, .inr ⟨k, hlt, rfl, G.out, HT.out⟩, hb.trans (hb1.mono hz)⟩
      · have G := Lib.hid (show P ts[k] = false by simpa using g); clear g
        go_wp2_with fail
        refine (HF.out k hlt _ hb).mono ?_
        rw [G.out]
        rintro e w1 ⟨rfl, hb1⟩
        go_wp2
        go_roundw
        case rel =>
          refine ⟨k + 1, by omega, by go_num, fun j hj hjk => ?_, hb.trans (hb1.mono hz)⟩
          rcases Nat.lt_or_eq_of_le (Nat.le_of_lt_succ hjk) with h1 | h1
          · exact HT.out j hj h1
          · subst h1; exact G.out
        case measure => simp [intOf] <;> omega
    · go_wp2
      go_ret
      exact ⟨-1, rfl, .inl ⟨rfl, fun j hj => HT.out j hj (by omega)⟩, hb⟩

set_option maxHeartbeats 1000000 in
theorem idxF2_any (N : Nat) (p q : Value) (P : Ton → Bool) (v : Value) (ts : List Ton) (w : World) (h : Tons w v ts)
    (hN : ∀ args w, Sem.run Try.prog (callFunc N args) w = .ok (.enter N args) w)
    (hF : ∀ k (hk : k < ts.length) (w1 : World), Below w.heap.size w w1 → Calls Try.prog N #[.agg #[.int .i64 ts[k].note, .int .i64 ts[k].start, .int .i64 ts[k].len], p, q] w1 fun e w2 => e = .returned (.bool (P ts[k])) ∧ Below w1.heap.size w1 w2) :
    Calls Try.prog 78 #[v, .func (.func N) #[] #[p, q]] w fun e w' => ∃ r : Int, e = .returned (.int .i64 r) ∧ Idx P ts r ∧ Below w.heap.size w w' := by
  obtain ⟨a, ca, rfl, hca, hcm, _⟩ := id h
  have hm : ts.length ≤ maxLen := by omega
  clear hca hcm
  unfold maxLen at hm
  have HF := Lib.hid hF; clear hF
  go_enter Try.func78, Try.ntmps78
  go_wp2_with fail
  go_loopw [8, 5] (fun i _ wr => ∃ k : Nat, k ≤ ts.length ∧ i = .int .i64 (k : Int) ∧ (∀ j (hj : j < ts.length), j < k → P ts[j] = false) ∧ Below w.heap.size w wr) (fun i _ _ => ts.length - (intOf i).toNat)
  case atStart => exact ⟨0, Nat.zero_le _, by go_num, by intro j hj h; omega, Below.refl _ _⟩
  case round =>
    obtain ⟨k, hk, rfl, ht, hb⟩ := hrel
    have HT := Lib.hid ht; clear ht
    by_cases hlt : k < ts.length
    · obtain ⟨b1, o1, rfl, hB1, d0, d1, d2⟩ := (h.mono hb).at hlt
      have hz := hb.size
      by_cases g : P ts[k] = true
      · have G := Lib.hid g; clear g
        go_wp2_with fail
        refine (HF.out k hlt _ hb).mono ?_
        rw [G.out]
        rintro e w1 ⟨rfl, hb1⟩
        go_wp2
        go_ret
        exact ⟨k, rfl, .inr ⟨k, hlt, rfl, G.out, HT.out⟩, hb.trans (hb1.mono hz)⟩
      · have G := Lib.hid (show P ts[k] = false by simpa using g); clear g
        go_wp2_with fail
        refine (HF.out k hlt _ hb).mono ?_
        rw [G.out]
        rintro e w1 ⟨rfl, hb1⟩
        go_wp2
        go_roundw
        case rel =>
          refine ⟨k + 1, by omega, by go_num, fun j hj hjk => ?_, hb.trans (hb1.mono hz)⟩
          rcases Nat.lt_or_eq_of_le (Nat.le_of_lt_succ hjk) with h1 | h1
          · exact HT.out j hj h1
          · subst h1; exact G.out
        case measure => simp [intOf] <;> omega
    · go_wp2
      go_ret
      exact ⟨-1, rfl, .inl ⟨rfl, fun j hj => HT.out j hj (by omega)⟩, hb⟩

set_option maxHeartbeats 400000 in
theorem anyF2_any (N : Nat) (p q : Value) (P : Ton → Bool) (v : Value) (ts : List Ton) (w : World) (h : Tons w v ts)
    (hN : ∀ args w, Sem.run Try.prog (callFunc N args) w = .ok (.enter N args) w)
    (hF : ∀ k (hk : k < ts.length) (w1 : World), Below w.heap.size w w1 → Calls Try.prog N #[.agg #[.int .i64 ts[k].note, .int .i64 ts[k].start, .int .i64 ts[k].len], p, q] w1 fun e w2 => e = .returned (.bool (P ts[k])) ∧ Below w1.heap.size w1 w2) :
    Calls Try.prog 97 #[v, .func (.func N) #[] #[p, q]] w fun e w' => e = .returned (.bool (ts.any P)) ∧ Below w.heap.size w w' := by
  go_enter Try.func97, Try.ntmps97
  go_wp2_with fail
  refine (idxF2_any N p q P v ts _ h hN hF).mono ?_
  rintro e w1 ⟨r, rfl, hr, hb⟩
  have HX := Lib.hid hr.any
  clear hr
  go_wp2
  go_ret
  exact ⟨ret_bool HX.out, hb⟩

/-- y has the note of x and begins less than some ticks before it. -/
def soon (x : Ton) (rest : Int) (y : Ton) : Bool := decide (y.note = x.note) && decide (x.start - y.start < rest)
theorem enters_soon (args : Array Value) (w : World) : Sem.run Try.prog (callFunc 98 args) w = .ok (.enter 98 args) w := by
  first | rfl | (simp [callFunc, go_sem]; done) | (go_simp; done)
def tonBd (x : Ton) : Prop := 0 ≤ x.start ∧ x.start ≤ 1000000

set_option maxHeartbeats 1000000 in
theorem soon1_any (x y : Ton) (c1 c2 : Nat) (rest : Int) (w : World) (h0 : w.cell? ⟨c1, 0, none⟩ = some (.int .i64 x.note)) (h1 : w.cell? ⟨c1, 1, none⟩ = some (.int .i64 x.start)) (h2 : w.cell? ⟨c2, 0, none⟩ = some (.int .i64 rest)) (hx : tonBd x) (hy : tonBd y) :
    Calls Try.prog 98 #[.agg #[.int .i64 y.note, .int .i64 y.start, .int .i64 y.len], .pointer (some ⟨c1, 0, none⟩), .pointer (some ⟨c2, 0, none⟩)] w fun e w' => e = .returned (.bool (soon x rest y)) ∧ Below w.heap.size w w' := by
  have hl1 := World.block_lt_of_cell? w _ h0
  have hl2 := World.block_lt_of_cell? w _ h2
  simp only at hl1 hl2
  have l1 : c1 < w.heap.size + 1 := by omega
  have l2 : c2 < w.heap.size + 1 := by omega
  unfold tonBd at hx hy
  have q1 : IntKind.i64.wrap (x.start - y.start) = x.start - y.start := IntWalk.i64_in _ (by omega)
  clear hx hy
  by_cases g1 : y.note = x.note
  · have d1 : (y.note == x.note) = true := by simpa using g1
    have E := Lib.hid (show decide (x.start - y.start < rest) = soon x rest y by unfold soon; simp [g1])
    clear g1
    go_enter Try.func98, Try.ntmps98
    go_wp2
    go_ret
    refine ⟨ret_bool E.out, ?_⟩
    (repeat (first | with_reducible exact Below.refl _ _ | with_reducible exact hbw | (with_reducible refine Below.setCell ?_ ?_ _; rotate_left; · first | exact Nat.le_refl _ | omega | (simp; done) | (simp; omega)) | (with_reducible refine Below.alloc ?_ ?_ _; rotate_left; · first | exact Nat.le_refl _ | omega | (simp; done) | (simp; omega)) | with_reducible refine below_drewN ?_ _ | with_reducible refine Below.drew ?_))
  · have d1 : (y.note == x.note) = false := by simpa using g1
    have E := Lib.hid (show false = soon x rest y by unfold soon; simp [g1])
    clear g1
    go_enter Try.func98, Try.ntmps98
    go_wp2
    go_ret
    refine ⟨ret_bool E.out, ?_⟩
    (repeat (first | with_reducible exact Below.refl _ _ | with_reducible exact hbw | (with_reducible refine Below.setCell ?_ ?_ _; rotate_left; · first | exact Nat.le_refl _ | omega | (simp; done) | (simp; omega)) | (with_reducible refine Below.alloc ?_ ?_ _; rotate_left; · first | exact Nat.le_refl _ | omega | (simp; done) | (simp; omega)) | with_reducible refine below_drewN ?_ _ | with_reducible refine Below.drew ?_))

set_option maxHeartbeats 1000000 in
theorem tooSoon_any (v : Value) (ts : List Ton) (x : Ton) (rest : Int) (w : World) (h : Tons w v ts) (hx : tonBd x) (ht : ∀ y ∈ ts, tonBd y) :
    Calls Try.prog 69 #[v, .agg #[.int .i64 x.note, .int .i64 x.start, .int .i64 x.len], .int .i64 rest] w fun e w' => e = .returned (.bool (ts.any (soon x rest))) ∧ Below w.heap.size w w' := by
  obtain ⟨a, ca, rfl, _⟩ := id h
  have HX := Lib.hid hx; have HT := Lib.hid ht; clear hx ht
  go_enter Try.func69, Try.ntmps69
  go_wp2_with fail
  refine (anyF2_any 98 (.pointer (some ⟨w.heap.size, 0, none⟩)) (.pointer (some ⟨w.heap.size + 1, 0, none⟩)) (soon x rest) _ ts _ (h.mono (by (repeat (first | with_reducible exact Below.refl _ _ | with_reducible exact hbw | (with_reducible refine Below.setCell ?_ ?_ _; rotate_left; · first | exact Nat.le_refl _ | omega | (simp; done) | (simp; omega)) | (with_reducible refine Below.alloc ?_ ?_ _; rotate_left; · first | exact Nat.le_refl _ | omega | (simp; done) | (simp; omega)) | with_reducible refine below_drewN ?_ _ | with_reducible refine Below.drew ?_)))) enters_soon (fun k hk w1 hb1 => soon1_any x ts[k] _ _ rest w1 (cellB hb1 (by simp [go_sem])) (cellB hb1 (by simp [go_sem])) (cellB hb1 (by simp [go_sem])) HX.out (HT.out _ (List.getElem_mem hk)))).mono ?_
  rintro e w1 ⟨rfl, hb⟩
  have hbw : Below w.heap.size w w1 := Below.trans (by (repeat (first | with_reducible exact Below.refl _ _ | with_reducible exact hbw | (with_reducible refine Below.setCell ?_ ?_ _; rotate_left; · first | exact Nat.le_refl _ | omega | (simp; done) | (simp; omega)) | (with_reducible refine Below.alloc ?_ ?_ _; rotate_left; · first | exact Nat.le_refl _ | omega | (simp; done) | (simp; omega)) | with_reducible refine below_drewN ?_ _ | with_reducible refine Below.drew ?_))) (hb.mono (by simp <;> omega))
  go_wp2
  go_ret
  exact ⟨rfl, hbw⟩

/-- The indices of fast tones below k. -/
def fastAt (ts : List Ton) (rest : Int) (k : Nat) : Bool := match ts[k]? with
  | some x => (ts.take k).any (soon x rest)
  | none => false
def fastL (ts : List Ton) (rest : Int) : Nat → List Int
  | 0 => []
  | k + 1 => if fastAt ts rest k = true then fastL ts rest k ++ [(k : Int)] else fastL ts rest k
theorem fastAt_eq {ts : List Ton} {rest : Int} {k : Nat} (h : k < ts.length) : fastAt ts rest k = (ts.take k).any (soon ts[k] rest) := by
  unfold fastAt; rw [List.getElem?_eq_getElem h]
theorem fastL_yes {ts : List Ton} {rest : Int} {k : Nat} (h : fastAt ts rest k = true) : fastL ts rest (k + 1) = fastL ts rest k ++ [(k : Int)] := if_pos h
theorem fastL_no {ts : List Ton} {rest : Int} {k : Nat} (h : fastAt ts rest k = false) : fastL ts rest (k + 1) = fastL ts rest k := if_neg (by rw [h]; exact Bool.false_ne_true)
theorem fastL_len (ts : List Ton) (rest : Int) : ∀ k, (fastL ts rest k).length ≤ k
  | 0 => Nat.le_refl _
  | k + 1 => by
    have := fastL_len ts rest k
    unfold fastL; split
    · simp; omega
    · omega
theorem tun_bd {x : TunD} (h : validTunB x = true) : ∀ y ∈ x.tones, tonBd y := by
  intro y hy
  obtain ⟨k, hk, rfl⟩ := List.getElem_of_mem hy
  have := (tun_tone h hk).fits
  unfold tonBd; omega

theorem tons_take' {w : World} {a : Option Addr} {ca : Nat} {xs : List Ton} (h : Tons w (.slice a xs.length ca) xs) {k : Nat} (hk : k ≤ xs.length) : Tons w (.slice a k ca) (xs.take k) := by
  obtain ⟨a', c', e, h1, h2, h3⟩ := h
  simp only [Value.slice.injEq] at e
  obtain ⟨rfl, _, rfl⟩ := e
  have hl : (xs.take k).length = k := by rw [List.length_take, Nat.min_eq_left hk]
  refine ⟨_, _, by rw [hl], by rw [hl]; omega, h2, fun j u hu => h3 j u ?_⟩
  have e2 : xs.flatMap Ton.cells = (xs.take k).flatMap Ton.cells ++ (xs.drop k).flatMap Ton.cells := by rw [← List.flatMap_append, List.take_append_drop]
  have hj := (List.getElem?_eq_some_iff.1 hu).1
  rw [e2, List.getElem?_append_left hj]; exact hu
theorem undrewA {w w' : World} {o : Obj} (h : Below (w.alloc o).drew.heap.size (w.alloc o).drew w') : Below w.heap.size (w.alloc o) w' := ⟨h.os, h.tape, h.output, h.size, fun k hk => h.block k (by simp; omega)⟩

set_option maxHeartbeats 2000000 in
theorem fastRepeats_any (vt lv : Value) (x : TunD) (rest : Int) (w : World) (h : Tun w vt lv x) (ok : validTunB x = true) :
    Calls Try.prog 70 #[vt, .int .i64 rest] w fun e w' => ∃ v', e = .returned v' ∧ OwnInts w.heap.size w'.heap.size w' v' (fastL x.tones rest x.tones.length) ∧ Below w.heap.size w w' := by
  obtain ⟨rfl, hlv⟩ := h
  obtain ⟨a, ca, rfl, hca, hcm, _⟩ := id hlv
  have hl := tun_len ok
  have OK := Lib.hid ok; have BD := Lib.hid (tun_bd ok); clear ok
  go_enter Try.func70, Try.ntmps70
  go_wp2_with fail
  go_loopw [5, 11, 6, 7] (fun o i _ _ wr => ∃ (k n : Nat) (a' : Option Addr) (c' : Nat), k ≤ x.tones.length ∧ i = .int .i64 (k : Int) ∧ n = (fastL x.tones rest k).length ∧ o = .slice a' n c' ∧ wr.ownsRow (w.heap.size + 1) 2 1 (.slice a' n c') n ((fastL x.tones rest k).map (Value.int .i64)) ∧ Below w.heap.size w wr ∧ w.heap.size + 1 ≤ wr.heap.size ∧ wr.cell? ⟨w.heap.size, 1, none⟩ = some (.slice a x.tones.length ca)) (fun _ i _ _ _ => x.tones.length - (intOf i).toNat)
  case atStart => exact ⟨0, 0, none, 0, Nat.zero_le _, by go_num, rfl, rfl, by simpa [fastL] using owns_nil _ _ _ _, by (repeat (first | with_reducible exact Below.refl _ _ | with_reducible exact hbw | (with_reducible refine Below.setCell ?_ ?_ _; rotate_left; · first | exact Nat.le_refl _ | omega | (simp; done) | (simp; omega)) | (with_reducible refine Below.alloc ?_ ?_ _; rotate_left; · first | exact Nat.le_refl _ | omega | (simp; done) | (simp; omega)) | with_reducible refine below_drewN ?_ _ | with_reducible refine Below.drew ?_)), by simp, by simp [go_sem]⟩
  case round =>
    obtain ⟨k, n, a', c', hk, rfl, hn, rfl, ho, hb, hz, y1⟩ := hrel
    have HO := Lib.hid ho; have HN := Lib.hid hn; clear ho
    have fl := fastL_len x.tones rest k
    rw [← hn] at fl
    clear hn
    by_cases hlt : k < x.tones.length
    · obtain ⟨b1, o1, rfl, hB1, d0, d1, d2⟩ := (hlv.mono hb).at hlt
      have l1 : b1 < wr.heap.size + 1 := by omega
      have hT := tons_take' (hlv.mono hb) hk
      have kc : (k : Int) ≤ (ca : Int) := by omega
      have kn : k ≤ ca := by omega
      have k0 : (0 : Int) ≤ (k : Int) := by omega
      have kz : ((k : Int)).toNat = k := by omega
      have hw0 : w.heap.size < wr.heap.size := by omega
      have hw1 : w.heap.size < wr.heap.size + 1 := by omega
      have HT := Lib.hid hT; have HB := Lib.hid hb
      clear hT hb
      by_cases g : fastAt x.tones rest k = true
      · have F := Lib.hid (fastL_yes g)
        have G := Lib.hid (show (x.tones.take k).any (soon x.tones[k] rest) = true by rw [← fastAt_eq hlt]; exact g)
        clear g
        go_wp2_with fail
        refine wp_region_ordG [(0, 1), (1, 1), (2, 1), (3, 1), (4, 1), (5, 1), (6, 0)] [6] (none) (by kernel_rfl) (by kernel_rfl) ?_
        (repeat ((first | with_reducible refine wpOrdG_soft (fun K hK => ?_) | with_reducible refine wpOrdG_pre (fun K hK => ?_)); simp only [List.getElem?_toArray, List.getElem?_cons_zero, List.getElem?_cons_succ]; first | (go_simp; refine hK _ ?_) | (simp only [undef]; go_simp; refine hK _ ?_); clear hK K))
        (with_reducible refine wpOrdG_hard ?_; simp only [List.getElem?_toArray, List.getElem?_cons_zero, List.getElem?_cons_succ])
        go_wp2_with fail
        refine (tooSoon_any _ (x.tones.take k) x.tones[k] rest _ (HT.out.mono (by (repeat (first | with_reducible exact Below.refl _ _ | with_reducible exact hbw | (with_reducible refine Below.setCell ?_ ?_ _; rotate_left; · first | exact Nat.le_refl _ | omega | (simp; done) | (simp; omega)) | (with_reducible refine Below.alloc ?_ ?_ _; rotate_left; · first | exact Nat.le_refl _ | omega | (simp; done) | (simp; omega)) | with_reducible refine below_drewN ?_ _ | with_reducible refine Below.drew ?_)))) (BD.out _ (List.getElem_mem hlt)) (fun y hy => BD.out y (List.mem_of_mem_take hy))).mono ?_
        rw [G.out]
        rintro e w1 ⟨rfl, hb1⟩
        have hst : Below wr.heap.size wr w1 := Below.trans (by (repeat (first | with_reducible exact Below.refl _ _ | with_reducible exact hbw | (with_reducible refine Below.setCell ?_ ?_ _; rotate_left; · first | exact Nat.le_refl _ | omega | (simp; done) | (simp; omega)) | (with_reducible refine Below.alloc ?_ ?_ _; rotate_left; · first | exact Nat.le_refl _ | omega | (simp; done) | (simp; omega)) | with_reducible refine below_drewN ?_ _ | with_reducible refine Below.drew ?_))) (undrewA hb1)
        have hz1 := hst.size
        go_wp2_with fail
        refine And.intro (grown_of_below hb1) ?_
        (with_reducible refine wpOrdG_nil ?_); refine NoPanic.normal ?_
        have y1 := cellB hst y1
        have HO1 := Lib.hid (owns_mono HO.out hst); have HB1 := Lib.hid (HB.out.trans (hst.mono (by omega)))
        clear hst hb1
        go_wp2_with (at_builtin; refine append_one rfl _ _ 25 rfl (w.heap.size + 1) 2 (.int .i64 0) 1 8 Try.underlying25 info_int rfl (by decide) _ n _ rfl HO1.out [.int .i64 (k : Int)] rfl (by simp [Value.oneCell']) rfl (by omega) (by decide) (by omega) ?_)
        intro a5 c5 w5 ho5 _ hb5
        have y1 := cellL hb5 (by simp) y1
        have hz5 := hb5.size
        have HO5 := Lib.hid ho5; have HB5 := Lib.hid (HB1.out.trans (hb5.mono (by omega)))
        clear ho5 hb5
        go_wp2
        go_roundw
        case rel => exact ⟨k + 1, n + 1, a5, c5, by omega, by go_num, by rw [F.out, HN.out]; simp, rfl, by rw [F.out, List.map_append]; exact HO5.out, HB5.out, by omega, y1⟩
        case measure => simp [intOf] <;> omega
      · have g' : fastAt x.tones rest k = false := by simpa using g
        have F := Lib.hid (fastL_no g')
        have G := Lib.hid (show (x.tones.take k).any (soon x.tones[k] rest) = false by rw [← fastAt_eq hlt]; exact g')
        clear g g'
        go_wp2_with fail
        refine wp_region_ordG [(0, 1), (1, 1), (2, 1), (3, 1), (4, 1), (5, 1), (6, 0)] [6] (none) (by kernel_rfl) (by kernel_rfl) ?_
        (repeat ((first | with_reducible refine wpOrdG_soft (fun K hK => ?_) | with_reducible refine wpOrdG_pre (fun K hK => ?_)); simp only [List.getElem?_toArray, List.getElem?_cons_zero, List.getElem?_cons_succ]; first | (go_simp; refine hK _ ?_) | (simp only [undef]; go_simp; refine hK _ ?_); clear hK K))
        (with_reducible refine wpOrdG_hard ?_; simp only [List.getElem?_toArray, List.getElem?_cons_zero, List.getElem?_cons_succ])
        go_wp2_with fail
        refine (tooSoon_any _ (x.tones.take k) x.tones[k] rest _ (HT.out.mono (by (repeat (first | with_reducible exact Below.refl _ _ | with_reducible exact hbw | (with_reducible refine Below.setCell ?_ ?_ _; rotate_left; · first | exact Nat.le_refl _ | omega | (simp; done) | (simp; omega)) | (with_reducible refine Below.alloc ?_ ?_ _; rotate_left; · first | exact Nat.le_refl _ | omega | (simp; done) | (simp; omega)) | with_reducible refine below_drewN ?_ _ | with_reducible refine Below.drew ?_)))) (BD.out _ (List.getElem_mem hlt)) (fun y hy => BD.out y (List.mem_of_mem_take hy))).mono ?_
        rw [G.out]
        rintro e w1 ⟨rfl, hb1⟩
        have hst : Below wr.heap.size wr w1 := Below.trans (by (repeat (first | with_reducible exact Below.refl _ _ | with_reducible exact hbw | (with_reducible refine Below.setCell ?_ ?_ _; rotate_left; · first | exact Nat.le_refl _ | omega | (simp; done) | (simp; omega)) | (with_reducible refine Below.alloc ?_ ?_ _; rotate_left; · first | exact Nat.le_refl _ | omega | (simp; done) | (simp; omega)) | with_reducible refine below_drewN ?_ _ | with_reducible refine Below.drew ?_))) (undrewA hb1)
        have hz1 := hst.size
        go_wp2_with fail
        refine And.intro (grown_of_below hb1) ?_
        (with_reducible refine wpOrdG_nil ?_); refine NoPanic.normal ?_
        have y1 := cellB hst y1
        have HO1 := Lib.hid (owns_mono HO.out hst); have HB1 := Lib.hid (HB.out.trans (hst.mono (by omega)))
        clear hst hb1
        go_wp2
        go_roundw
        case rel => exact ⟨k + 1, n, a', c', by omega, by go_num, by rw [F.out]; exact HN.out, rfl, by rw [F.out]; exact HO1.out, HB1.out, by omega, y1⟩
        case measure => simp [intOf] <;> omega
    · obtain rfl : k = x.tones.length := by omega
      have hO : w.heap.size ≤ w.heap.size + 1 := by omega
      have HO2 := Lib.hid (show OwnInts w.heap.size wr.heap.size wr (.slice a' n c') (fastL x.tones rest x.tones.length) from OwnInts.mk' (by have := owns_base HO.out hO; rw [← HN.out]; exact this))
      go_wp2
      go_ret
      exact ⟨_, rfl, HO2.out, hb⟩


end Go.Proofs.Ytemmnjokojgjaaa
