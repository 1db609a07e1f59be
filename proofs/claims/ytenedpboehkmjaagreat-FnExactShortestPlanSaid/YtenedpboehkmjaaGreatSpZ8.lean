import Derived.Test.YtenedpboehkmjaaGreatSpZ6
import Derived.Test.YtenedpboehkmjaaGreatSpZ7
import Derived.Test.YtenedpboehkmjaaGreatSpZ2
import Derived.Test.YtenedpboehkmjaaGreatChecked
import Derived.Test.YtenedpboehkmjaaGreatSpZ1
/- A region that draws its order, walked step by step, where blocks from B up to E may be written: what only reads is taken at once, all else forks. No program in sight. -/
set_option linter.unusedSimpArgs false
set_option linter.unnecessarySimpa false
set_option linter.unusedVariables false
namespace Go.Proofs.YtenedpboehkmjaaGreat
open Go.RowKit

section
variable {P : Program} {ops : Array Oper} {Q : Exit → Act → World → Prop} {w0 : World} {B E : Nat}

/-- The walk from where 'L' has come up; n operations are left. -/
def wpT (P : Program) (ops : Array Oper) (Q : Exit → Act → World → Prop) (w0 : World) (B E : Nat) (n : Nat) (L : Array Bool) (a : Act) (w : World) : Prop :=
  wpAnyH P .any ops (NoPanic Q) (fun w => Touch B E w0 w) n L a w

theorem wp_region_T {id : Nat} {a : Act} {w : World} {l : List Oper} (B E n : Nat) (hm : P.follows .mixedOrders = true) (hn : l.length = n)
    (h : wpT P l.toArray Q w.drew B E n (Array.replicate n false) a w.drew) : (Code.region id l.toArray true).wp P Q a w := by
  subst hn
  refine wp_region_noPanic (wp_region_any hm ?_)
  unfold wpT at h
  exact wpAny_of_held _ _ _ _ (by simpa using h)

theorem wpT_soft {n : Nat} {L : Array Bool} {a : Act} {w : World} (i : Nat) (hB : (Region.noSelect ops && (Region.ready .any ops L).contains i && Region.free .any ops L i) = true) (hS : Touch B E w0 w)
    (h : ∀ K : Act → Prop, (∀ a, wpT P ops Q w0 B E n (L.setIfInBounds i true) a w → K a) → match ops[i]? with | none => False | some o => if Region.wanted o (yielded ops a.tmps) = true then softT P w0 B E o a K else K (a.put o.dst undef)) : wpT P ops Q w0 B E (n + 1) L a w := by
  simp only [Bool.and_eq_true] at hB
  obtain ⟨⟨hs, hr⟩, hf⟩ := hB
  have h := h _ fun _ h => h
  unfold wpT at h ⊢
  split at h
  · exact h.elim
  · rename_i o ho
    split at h
    · rename_i hw
      obtain ⟨v, h1, h2⟩ := h
      refine wpAnyH_take ho hs hf hr (fun c a w h => (h : False).elim) (.inl ⟨hw, fun w' hw' => ?_⟩) hS h2
      obtain ⟨x, rfl⟩ := extT_of_touch hw'
      exact h1 x
    · rename_i hw
      exact wpAnyH_take ho hs hf hr (fun c a w h => (h : False).elim) (.inr ⟨by simpa using hw, rfl⟩) hS h

theorem wpT_one {n : Nat} {L : Array Bool} {a : Act} {w : World} (i : Nat) (hr : decide (Region.ready .any ops L = [i]) = true)
    (h : match ops[i]? with | none => False | some o => wpList P ops (only (NoPanic Q) fun a' w' => Touch B E w0 w' ∧ wpT P ops Q w0 B E n (L.setIfInBounds i true) a' w') [o] a w) : wpT P ops Q w0 B E (n + 1) L a w := by
  unfold wpT
  refine wpAnyH_all (of_decide_eq_true hr) (by simp) (fun j hj => ?_)
  obtain rfl : j = i := by simpa using hj
  exact wpOp_only h

theorem wpT_two {n : Nat} {L : Array Bool} {a : Act} {w : World} (i j : Nat) (hr : decide (Region.ready .any ops L = [i, j]) = true)
    (h1 : match ops[i]? with | none => False | some o => wpList P ops (only (NoPanic Q) fun a' w' => Touch B E w0 w' ∧ wpT P ops Q w0 B E n (L.setIfInBounds i true) a' w') [o] a w)
    (h2 : match ops[j]? with | none => False | some o => wpList P ops (only (NoPanic Q) fun a' w' => Touch B E w0 w' ∧ wpT P ops Q w0 B E n (L.setIfInBounds j true) a' w') [o] a w) : wpT P ops Q w0 B E (n + 1) L a w := by
  unfold wpT
  refine wpAnyH_all (of_decide_eq_true hr) (by simp) (fun k hk => ?_)
  simp only [List.mem_cons, List.not_mem_nil, or_false] at hk
  rcases hk with rfl | rfl
  · exact wpOp_only h1
  · exact wpOp_only h2

theorem wpT_done {L : Array Bool} {a : Act} {w : World} (hr : decide (Region.ready .any ops L = []) = true) (h : NoPanic Q .normal a w) (n : Nat) : wpT P ops Q w0 B E n L a w := by
  unfold wpT
  cases n with
  | zero => exact ⟨of_decide_eq_true hr, h⟩
  | succ n => exact ⟨fun _ => h, by rw [of_decide_eq_true hr]; simp⟩
end

/-- 'append(row, lit...)', the literal whatever reads as cells: and where the row lies then. -/
theorem append_sl {P : Program} {w : World} {ops : Array Oper} {rest : List Oper} {o : Oper} {a : Act} {Q : Exit → Act → World → Prop} (hgd : o.guard = none) (s x : Operand) (t : TypeId)
    (ho : o.op = .call { callee := .builtin .append, args := #[s, x], argTypes := #[t, t] })
    (base : Nat) (e : TypeId) (z : Value) (size bytes : Nat) (ht : P.underlying t = some (.slice e)) (hi : (P.info? e).map (fun i => (i.zero, i.size, i.bytes)) = some (some z, size, bytes)) (hzs : z.cells.size = size) (hsz : 0 < size)
    (v : Value) (n : Nat) (xs : List Value) (hs : a.eval s = v) (hown : w.ownsRow base e size v n xs)
    (sv : Value) (m : Nat) (news : List Value) (hx : a.eval x = sv) (hr : Sl w sv m news) (hl : news.length = m * size) (h1 : ∀ u ∈ news, u.oneCell' = true) (hn : n + m ≤ 1000000000) (hbytes : bytes ≤ 1000) (hbase : base ≤ w.heap.size)
    (h : ∀ a' cap' w', w'.ownsRow base e size (.slice a' (n + m) cap') (n + m) (xs ++ news) → w.grownBy w' v.ownBlock → Below base w w' → ((Value.slice a' (n + m) cap').ownBlock = v.ownBlock ∨ (Value.slice a' (n + m) cap').ownBlock = some w.heap.size) → wpList P ops Q rest (Act.put a o.dst (.slice a' (n + m) cap')) w') :
    wpList P ops Q (o :: rest) a w := by
  obtain ⟨i0, hi, hz0, hz1, hz2⟩ := info_parts hi
  obtain ⟨A, c, rfl, _, _, _⟩ := id hr
  have hb2 : (n + m) * bytes ≤ 140737488355328 := Nat.le_trans (Nat.mul_le_mul hn hbytes) (by omega)
  obtain ⟨v', w', hrun, h2, h3, h4⟩ := run_append_sl (P := P) w base t o.type e i0 z size bytes ht hi hz0 hz1 hz2 hzs hsz v n xs hown A m c news hr hl h1 (by unfold maxLen; omega) hb2 hbase
  obtain ⟨a', cap', rfl⟩ := owns_slice h2
  refine wpList_plain hgd fun _ hK => ?_
  unfold Oper.wp execOp
  simp only [ho, resolve, invoke, builtin, Sem.run_bind, Sem.run_pure, Result.andThen_ok, List.map_toArray, List.map_cons, List.map_nil, hs, hx, hrun]
  exact hK _ _ (h a' cap' w' h2 h3 ((Below.refl base w).grown h3 hbase (fun k hk => (hown.lt k hk).1)) h4)
theorem Apt.next' {v v' o : Value} {H : Nat} (ha : Apt v o) (hv : v'.ownBlock = v.ownBlock ∨ v'.ownBlock = some H) (ho : ∀ k, o.ownBlock = some k → k < H) : Apt v' o := by
  rcases hv with h | h
  · rcases ha with g | g | g
    · exact .inl (h.trans g)
    · exact .inr (.inl g)
    · exact .inr (.inr (by rw [h]; exact g))
  · cases hb : o.ownBlock with
    | none => exact .inr (.inl hb)
    | some k =>
      refine .inr (.inr ?_)
      have := ho k hb
      rw [h, hb]
      simp only [ne_eq, Option.some.injEq]
      omega
theorem Sl.keepG {w w' : World} {q m c : Nat} {cs : List Value} {row : Option Nat} (h : Sl w (.slice (some ⟨q, 0, none⟩) m c) m cs) (hg : w.grownBy w' row) (hr : row ≠ some q) : Sl w' (.slice (some ⟨q, 0, none⟩) m c) m cs := by
  obtain ⟨a, cap, e, h1, h2, h3⟩ := h
  cases e
  refine ⟨_, _, rfl, h1, h2, fun j u hu => ?_⟩
  obtain ⟨b, off, e, hc⟩ := h3 j u hu
  cases e
  exact ⟨_, _, rfl, (World.cell?_of_block (w := w) (hg.block q (World.block_lt_of_cell? w _ hc) (fun e => hr e.symm))).trans hc⟩
/-- A slice literal that was just laid. -/
theorem sl_lit (w : World) (cs : List Value) (e : TypeId) (n H : Nat) (hH : w.heap.size = H) (hn : n ≤ maxLen) : Sl (w.alloc (.cells cs.toArray e)) (.slice (some ⟨H, 0, none⟩) n n) n cs := by
  subst hH
  exact ⟨_, _, rfl, Nat.le_refl _, hn, fun j u hu => ⟨_, _, rfl, by
    rw [Nat.zero_add, cell_of_row _ w.heap.size j cs.toArray e (0, 0) (heap_alloc_new w _)]
    simpa using hu⟩⟩

end Go.Proofs.YtenedpboehkmjaaGreat
/- Valid profiles of the program. -/
set_option linter.unusedSimpArgs false
set_option linter.unnecessarySimpa false
set_option linter.unusedVariables false
set_option maxRecDepth 100000
namespace Go.Proofs.YtenedpboehkmjaaGreat
open Go.RowKit

set_option maxHeartbeats 4000000 in
theorem ValidProfile_any (r : Bool) (v : Value) (x : PrfD) (w : World) (h : RdPrf w v x) (hn : x.name.size ≤ maxLen) (hr : r = decide (prfOk x)) :
    Calls Tryz.prog 94 #[v] w fun e w' => e = .returned (.bool r) ∧ Below w.heap.size w w' := by
  obtain ⟨lv, rfl, hrr⟩ := h
  obtain ⟨a, c, rfl, hz1, hz2, _⟩ := id hrr
  have HR := Lib.hid hr
  have H := Lib.hid hrr
  have hm : x.rings.length ≤ maxLen := by omega
  clear hr hrr hz1 hz2
  unfold maxLen at hm
  obtain ⟨r1, hr1⟩ : ∃ r1, r1 = decide (NameOk x.name) := ⟨_, rfl⟩
  have HR1 := Lib.hid hr1
  obtain ⟨r2, hr2⟩ : ∃ r2, r2 = decide (∀ i, i < x.rings.length → ringOk (rg x.rings i)) := ⟨_, rfl⟩
  have HR2 := Lib.hid hr2
  clear hr1 hr2
  go_enter Tryz.func94, Tryz.ntmps94
  go_wp2_with fail
  obtain ⟨wA, hA⟩ : ∃ wA, wA = w.alloc (.cells #[.string x.name, .slice a x.rings.length c] 42) := ⟨_, rfl⟩
  rw [← hA]
  have hbA : Below w.heap.size w wA := by rw [hA]; (repeat (first | with_reducible exact Below.refl _ _ | with_reducible exact hbw | (with_reducible refine Below.setCell ?_ ?_ _; rotate_left; · first | exact Nat.le_refl _ | omega | (simp; done) | (simp; omega)) | (with_reducible refine Below.alloc ?_ ?_ _; rotate_left; · first | exact Nat.le_refl _ | omega | (simp; done) | (simp; omega)) | with_reducible refine below_drewN ?_ _ | with_reducible refine Below.drew ?_))
  have B1 : Box wA w.heap.size [.string x.name, .slice a x.rings.length c] := by
    rw [hA]; exact Box.alloc w _ _ _ rfl
  clear hA
  refine (isName_any x.name _ hn).mono ?_
  rw [← HR1.out]
  rintro e w1 ⟨rfl, hb1⟩
  replace B1 := B1.mono hb1
  have HBW := Lib.hid (hbA.trans (hb1.mono hbA.size))
  clear hb1 hbA
  have c0 := B1.at' 0 _ rfl
  have c1 := B1.at' 1 _ rfl
  cases r1
  · skip
    have HX := Lib.hid (show r = false by rw [HR.out]; exact decide_eq_false (fun h => by have h2 := HR1.out.symm; rw [decide_eq_false_iff_not] at h2; exact h2 h.1))
    go_wp2
    go_ret
    exact ⟨by rw [HX.out]; rfl, HBW.out⟩
  · by_cases g2 : 1 ≤ x.rings.length
    · have e2 : decide ((x.rings.length : Int) < 1) = false := decide_eq_false (by omega)
      have e2' : decide (x.rings.length < 1) = false := decide_eq_false (by omega)
      by_cases g3 : x.rings.length ≤ 32
      · have e3 : decide (32 < (x.rings.length : Int)) = false := decide_eq_false (by omega)
        have e3' : decide (32 < x.rings.length) = false := decide_eq_false (by omega)
        go_wp2_with fail
        refine (containsRing_any r2 _ x.rings _ (H.out.mono HBW.out) HR2.out).mono ?_
        rintro e w2 ⟨rfl, hb2⟩
        replace B1 := B1.mono hb2
        replace HBW := Lib.hid (HBW.out.trans (hb2.mono HBW.out.size))
        clear hb2 c0 c1
        have c0 := B1.at' 0 _ rfl
        have c1 := B1.at' 1 _ rfl
        cases r2
        · skip
          have HX := Lib.hid (show r = false by rw [HR.out]; exact decide_eq_false (fun h => by have h2 := HR2.out.symm; rw [decide_eq_false_iff_not] at h2; exact h2 (fun i hi => (h.2.2.1 i hi).1)))
          go_wp2
          go_ret
          exact ⟨by rw [HX.out]; rfl, HBW.out⟩
        · have G2 := Lib.hid g2
          have G3 := Lib.hid g3
          have HRK := Lib.hid (show ∀ i, i < x.rings.length → ringOk (rg x.rings i) from of_decide_eq_true HR2.out.symm)
          clear c0 c1
          have BB := Lib.hid B1
          clear B1 g2
          go_wp2_with fail
          go_loopw [3, 4, 5] (fun i _ _ wr => ∃ k : Nat, 1 ≤ k ∧ k ≤ x.rings.length ∧ i = .int .i64 (k : Int) ∧ (∀ i, i < k → ringAt x.rings i) ∧ Below w2.heap.size w2 wr) (fun i _ _ _ => x.rings.length - (intOf i).toNat)
          case atStart => exact ⟨1, Nat.le_refl _, G2.out, by go_num, fun i hi => ⟨HRK.out i (by have := G2.out; omega), .inl (by omega)⟩, Below.refl _ _⟩
          case round =>
            obtain ⟨k, hk1, hk, rfl, ht, hb⟩ := hrel
            have HT := Lib.hid ht
            have HB := Lib.hid hb
            have B1 := BB.out.mono hb
            have HI := Lib.hid (H.out.mono (HBW.out.trans (hb.mono HBW.out.size)))
            clear ht hb
            have c0 := B1.at' 0 _ rfl
            have c1 := B1.at' 1 _ rfl
            have l0 := B1.lt
            clear B1
            by_cases hlt : k < x.rings.length
            · obtain ⟨b1, o1, rfl, hB, d0, d1, d2⟩ := HI.out.at hlt
              obtain ⟨_, _, e4, hB', f0, f1, f2⟩ := HI.out.at (show k - 1 < x.rings.length by omega)
              cases e4
              have z1 : ((k : Int) - 1).toNat = k - 1 := by omega
              have zk : IntKind.i64.wrap ((k : Int) - 1) = (k : Int) - 1 := IntWalk.i64_in _ (by omega)
              have ik0 : (1 : Int) ≤ (k : Int) := by omega
              have ik1 : (k : Int) - 1 < (x.rings.length : Int) := by omega
              have ik2 : (k : Int) < (x.rings.length : Int) := by omega
              have gy := rg_at hlt
              have gz := rg_at (show k - 1 < x.rings.length by omega)
              obtain ⟨y, hy⟩ : ∃ y, y = x.rings[k] := ⟨_, rfl⟩
              obtain ⟨z, hz⟩ : ∃ z, z = x.rings[k - 1] := ⟨_, rfl⟩
              rw [← hy] at gy d0 d1 d2
              rw [← hz] at gz f0 f1 f2
              have GY := Lib.hid gy
              have GZ := Lib.hid gz
              clear gy gz hy hz
              go_wp2_with fail
              refine wp_region_T 0 0 15 (by kernel_rfl) rfl ?_
              obtain ⟨W0, hW⟩ : ∃ W0, W0 = wr.drew := ⟨_, rfl⟩
              rw [← hW]
              have l0 : w.heap.size < W0.heap.size := by rw [hW]; exact l0
              have lb : b1 < W0.heap.size := by rw [hW]; exact hB
              have c1 : W0.cell? ⟨w.heap.size, 1, none⟩ = some (.slice (some ⟨b1, o1, none⟩) x.rings.length c) := by rw [hW]; exact c1
              have d0 : W0.cell? ⟨b1, o1 + k * 3, none⟩ = some (.int .i64 y.outer) := by rw [hW]; exact d0
              have d1 : W0.cell? ⟨b1, o1 + k * 3 + 1, none⟩ = some (.int .i64 y.inner) := by rw [hW]; exact d1
              have d2 : W0.cell? ⟨b1, o1 + k * 3 + 2, none⟩ = some (.int .i64 y.height) := by rw [hW]; exact d2
              have f0 : W0.cell? ⟨b1, o1 + (k - 1) * 3, none⟩ = some (.int .i64 z.outer) := by rw [hW]; exact f0
              have f1 : W0.cell? ⟨b1, o1 + (k - 1) * 3 + 1, none⟩ = some (.int .i64 z.inner) := by rw [hW]; exact f1
              have f2 : W0.cell? ⟨b1, o1 + (k - 1) * 3 + 2, none⟩ = some (.int .i64 z.height) := by rw [hW]; exact f2
              have n1 : ∀ o y, (extT W0 0 0 y).cell? ⟨b1, o, none⟩ = W0.cell? ⟨b1, o, none⟩ := fun o y => cell?_extT lb (.inr (Nat.zero_le _))
              have n2 : ∀ o y, (extT W0 0 0 y).cell? ⟨w.heap.size, o, none⟩ = W0.cell? ⟨w.heap.size, o, none⟩ := fun o y => cell?_extT l0 (.inr (Nat.zero_le _))
              have HBW0 := Lib.hid (show Below w2.heap.size w2 W0 by rw [hW]; exact HB.out.drew)
              clear hW
              (with_reducible refine wpT_soft 0 (by kernel_rfl) (Touch.refl _ _ _) (fun K hK => ?_)); simp only [List.getElem?_toArray, List.getElem?_cons_zero, List.getElem?_cons_succ]; (first | (go_simp; refine hK _ ?_) | (simp only [undef]; go_simp; refine hK _ ?_)); clear hK K; (with_reducible refine wpT_soft 1 (by kernel_rfl) (Touch.refl _ _ _) (fun K hK => ?_)); simp only [List.getElem?_toArray, List.getElem?_cons_zero, List.getElem?_cons_succ]; (first | (go_simp; refine hK _ ?_) | (simp only [undef]; go_simp; refine hK _ ?_)); clear hK K; (with_reducible refine wpT_soft 2 (by kernel_rfl) (Touch.refl _ _ _) (fun K hK => ?_)); simp only [List.getElem?_toArray, List.getElem?_cons_zero, List.getElem?_cons_succ]; (first | (go_simp; refine hK _ ?_) | (simp only [undef]; go_simp; refine hK _ ?_)); clear hK K; (with_reducible refine wpT_soft 3 (by kernel_rfl) (Touch.refl _ _ _) (fun K hK => ?_)); simp only [List.getElem?_toArray, List.getElem?_cons_zero, List.getElem?_cons_succ]; (first | (go_simp; refine hK _ ?_) | (simp only [undef]; go_simp; refine hK _ ?_)); clear hK K; (with_reducible refine wpT_soft 4 (by kernel_rfl) (Touch.refl _ _ _) (fun K hK => ?_)); simp only [List.getElem?_toArray, List.getElem?_cons_zero, List.getElem?_cons_succ]; (first | (go_simp; refine hK _ ?_) | (simp only [undef]; go_simp; refine hK _ ?_)); clear hK K; (with_reducible refine wpT_soft 5 (by kernel_rfl) (Touch.refl _ _ _) (fun K hK => ?_)); simp only [List.getElem?_toArray, List.getElem?_cons_zero, List.getElem?_cons_succ]; (first | (go_simp; refine hK _ ?_) | (simp only [undef]; go_simp; refine hK _ ?_)); clear hK K; (with_reducible refine wpT_soft 6 (by kernel_rfl) (Touch.refl _ _ _) (fun K hK => ?_)); simp only [List.getElem?_toArray, List.getElem?_cons_zero, List.getElem?_cons_succ]; (first | (go_simp; refine hK _ ?_) | (simp only [undef]; go_simp; refine hK _ ?_)); clear hK K; (with_reducible refine wpT_soft 7 (by kernel_rfl) (Touch.refl _ _ _) (fun K hK => ?_)); simp only [List.getElem?_toArray, List.getElem?_cons_zero, List.getElem?_cons_succ]; (first | (go_simp; refine hK _ ?_) | (simp only [undef]; go_simp; refine hK _ ?_)); clear hK K; (with_reducible refine wpT_soft 8 (by kernel_rfl) (Touch.refl _ _ _) (fun K hK => ?_)); simp only [List.getElem?_toArray, List.getElem?_cons_zero, List.getElem?_cons_succ]; (first | (go_simp; refine hK _ ?_) | (simp only [undef]; go_simp; refine hK _ ?_)); clear hK K; (with_reducible refine wpT_soft 9 (by kernel_rfl) (Touch.refl _ _ _) (fun K hK => ?_)); simp only [List.getElem?_toArray, List.getElem?_cons_zero, List.getElem?_cons_succ]; (first | (go_simp; refine hK _ ?_) | (simp only [undef]; go_simp; refine hK _ ?_)); clear hK K; (with_reducible refine wpT_soft 10 (by kernel_rfl) (Touch.refl _ _ _) (fun K hK => ?_)); simp only [List.getElem?_toArray, List.getElem?_cons_zero, List.getElem?_cons_succ]; (first | (go_simp; refine hK _ ?_) | (simp only [undef]; go_simp; refine hK _ ?_)); clear hK K
              clear n1 n2
              (with_reducible refine wpT_two 11 12 (by kernel_rfl) ?_ ?_) <;> simp only [List.getElem?_toArray, List.getElem?_cons_zero, List.getElem?_cons_succ]
              · go_wp2_with fail
                refine ⟨(Touch.refl _ _ _).alloc _, ?_⟩
                (with_reducible refine wpT_one 12 (by kernel_rfl) ?_); simp only [List.getElem?_toArray, List.getElem?_cons_zero, List.getElem?_cons_succ]
                go_wp2_with fail
                refine ⟨((Touch.refl _ _ _).alloc _).alloc _, ?_⟩
                obtain ⟨V, hV⟩ : ∃ V, V = (W0.alloc (.cells #[.int .i64 0, .int .i64 0, .int .i64 0] 96)).alloc (.cells #[.int .i64 0, .int .i64 0, .int .i64 0] 96) := ⟨_, rfl⟩
                rw [← hV]
                have htv : Touch 0 0 W0 V := by rw [hV]; exact ((Touch.refl _ _ _).alloc _).alloc _
                have hbw : Below w2.heap.size w2 V := by
                  have hbw := HBW0.out
                  have hz := hbw.size
                  rw [hV]
                  (repeat (first | with_reducible exact Below.refl _ _ | with_reducible exact hbw | (with_reducible refine Below.setCell ?_ ?_ _; rotate_left; · first | exact Nat.le_refl _ | omega | (simp; done) | (simp; omega)) | (with_reducible refine Below.alloc ?_ ?_ _; rotate_left; · first | exact Nat.le_refl _ | omega | (simp; done) | (simp; omega)) | with_reducible refine below_drewN ?_ _ | with_reducible refine Below.drew ?_))
                have P1 : Box V W0.heap.size [.int .i64 0, .int .i64 0, .int .i64 0] := by
                  rw [hV]; exact (Box.alloc W0 _ _ _ rfl).mono (belowA _ _)
                have P2 : Box V (W0.heap.size + 1) [.int .i64 0, .int .i64 0, .int .i64 0] := by
                  rw [hV]; exact Box.alloc _ _ _ _ (by simp)
                clear hV
                have hz0 := HBW0.out.size
                have r0 := P1.at' 0 _ rfl
                have r1' := P1.at' 1 _ rfl
                have r2' := P1.at' 2 _ rfl
                have s0 := P2.at' 0 _ rfl
                have s1 := P2.at' 1 _ rfl
                have s2 := P2.at' 2 _ rfl
                have fr0 := P1.fr 0
                have fr1 := P1.fr 1
                have fr2 := P1.fr 2
                have fs0 := P2.fr 0
                have fs1 := P2.fr 1
                have fs2 := P2.fr 2
                have lt1 := P1.lt
                have lt2 := P2.lt
                (with_reducible refine wpT_one 13 (by kernel_rfl) ?_); simp only [List.getElem?_toArray, List.getElem?_cons_zero, List.getElem?_cons_succ]
                go_wp2_with fail
                refine ⟨((htv.setNew (by simp only; omega) _).setNew (by simp only; omega) _).setNew (by simp only; omega) _, ?_⟩
                (with_reducible refine wpT_one 14 (by kernel_rfl) ?_); simp only [List.getElem?_toArray, List.getElem?_cons_zero, List.getElem?_cons_succ]
                go_wp2_with fail
                refine ⟨(((((htv.setNew (by simp only; omega) _).setNew (by simp only; omega) _).setNew (by simp only; omega) _).setNew (by simp only; omega) _).setNew (by simp only; omega) _).setNew (by simp only; omega) _, ?_⟩
                ((with_reducible refine wpT_done (by kernel_rfl) ?_ _); refine NoPanic.normal ?_)
                obtain ⟨V1, hV1⟩ : ∃ V1, V1 = ((V.setCell ⟨W0.heap.size, 0, none⟩ (.int .i64 z.outer)).setCell ⟨W0.heap.size, 1, none⟩ (.int .i64 z.inner)).setCell ⟨W0.heap.size, 2, none⟩ (.int .i64 z.height) := ⟨_, rfl⟩
                rw [← hV1]
                obtain ⟨V2, hV2⟩ : ∃ V2, V2 = ((V1.setCell ⟨(W0.heap.size + 1), 0, none⟩ (.int .i64 y.outer)).setCell ⟨(W0.heap.size + 1), 1, none⟩ (.int .i64 y.inner)).setCell ⟨(W0.heap.size + 1), 2, none⟩ (.int .i64 y.height) := ⟨_, rfl⟩
                rw [← hV2]
                have PA : Box V W0.heap.size [.int .i64 0, .int .i64 0, .int .i64 0] := by first | exact P1 | exact P2
                have PB : Box V (W0.heap.size + 1) [.int .i64 0, .int .i64 0, .int .i64 0] := by first | exact P1 | exact P2
                have t1 : Touch W0.heap.size (W0.heap.size + 1) V V1 := by rw [hV1]; (repeat (first | with_reducible exact Touch.refl _ _ _ | with_reducible exact htc | (with_reducible refine Touch.setCell ?_ ?_ _; rotate_left; · (simp only; omega)) | (with_reducible refine Touch.setNew ?_ ?_ _; rotate_left; · (first | (simp only; omega) | (simp; done) | (simp; omega))) | with_reducible refine Touch.alloc ?_ _ | with_reducible refine Touch.drewN ?_ _ | with_reducible refine Touch.drew ?_))
                have t2 : Touch (W0.heap.size + 1) ((W0.heap.size + 1) + 1) V1 V2 := by rw [hV2]; (repeat (first | with_reducible exact Touch.refl _ _ _ | with_reducible exact htc | (with_reducible refine Touch.setCell ?_ ?_ _; rotate_left; · (simp only; omega)) | (with_reducible refine Touch.setNew ?_ ?_ _; rotate_left; · (first | (simp only; omega) | (simp; done) | (simp; omega))) | with_reducible refine Touch.alloc ?_ _ | with_reducible refine Touch.drewN ?_ _ | with_reducible refine Touch.drew ?_))
                have A1 := ((PA.set (.int .i64 z.outer) (j := 0) (by simp)).set (.int .i64 z.inner) (j := 1) (by simp)).set (.int .i64 z.height) (j := 2) (by simp)
                simp only [List.set_cons_zero, List.set_cons_succ] at A1
                rw [← hV1] at A1
                replace A1 := A1.touch t2 (by omega)
                have A2 := (((PB.touch t1 (by omega)).set (.int .i64 y.outer) (j := 0) (by simp)).set (.int .i64 y.inner) (j := 1) (by simp)).set (.int .i64 y.height) (j := 2) (by simp)
                simp only [List.set_cons_zero, List.set_cons_succ] at A2
                rw [← hV2] at A2
                have HBV := Lib.hid (show Below w2.heap.size w2 V2 from Touch.below t2 (Touch.below t1 hbw (by omega) hbw.size) (by omega) (by have := hbw.size; have := t1.size; omega))
                clear t1 t2 hV1 hV2 PA PB P1 P2 htv hbw r0 r1' r2' s0 s1 s2 fr0 fr1 fr2 fs0 fs1 fs2 c0 c1 d0 d1 d2 f0 f1 f2
                have a0 := A1.at' 0 _ rfl
                have a1 := A1.at' 1 _ rfl
                have a2 := A2.at' 0 _ rfl
                have a3 := A2.at' 1 _ rfl
                have l1 := A1.lt
                have l2 := A2.lt
                by_cases j1 : z.inner < y.outer
                · have e1 : decide (y.outer ≤ z.inner) = false := decide_eq_false (by omega)
                  by_cases j2 : y.inner < z.outer
                  · have e2 : decide (z.outer ≤ y.inner) = false := decide_eq_false (by omega)
                    have HM := Lib.hid (show ringAt x.rings k from ⟨HRK.out k hlt, .inr (by rw [GY.out, GZ.out]; exact ⟨j1, j2⟩)⟩)
                    clear j1 j2
                    go_wp2
                    go_roundw
                    case rel => exact ⟨k + 1, by omega, by omega, by go_num, prf_step HT.out HM.out, HBV.out⟩
                    case measure => simp [intOf]; omega
                  · have e2 : decide (z.outer ≤ y.inner) = true := decide_eq_true (by omega)
                    have HX := Lib.hid (show r = false by rw [HR.out]; exact decide_eq_false (prf_no hlt (fun h => by have h2 := h.2; rcases h2 with e | e; omega; rw [GY.out, GZ.out] at e; exact j2 e.2)))
                    go_wp2
                    go_ret
                    exact ⟨by rw [HX.out]; rfl, HBW.out.trans (HBV.out.mono HBW.out.size)⟩
                · have e1 : decide (y.outer ≤ z.inner) = true := decide_eq_true (by omega)
                  have HX := Lib.hid (show r = false by rw [HR.out]; exact decide_eq_false (prf_no hlt (fun h => by have h2 := h.2; rcases h2 with e | e; omega; rw [GY.out, GZ.out] at e; exact j1 e.1)))
                  go_wp2
                  go_ret
                  exact ⟨by rw [HX.out]; rfl, HBW.out.trans (HBV.out.mono HBW.out.size)⟩
              · go_wp2_with fail
                refine ⟨(Touch.refl _ _ _).alloc _, ?_⟩
                (with_reducible refine wpT_one 11 (by kernel_rfl) ?_); simp only [List.getElem?_toArray, List.getElem?_cons_zero, List.getElem?_cons_succ]
                go_wp2_with fail
                refine ⟨((Touch.refl _ _ _).alloc _).alloc _, ?_⟩
                obtain ⟨V, hV⟩ : ∃ V, V = (W0.alloc (.cells #[.int .i64 0, .int .i64 0, .int .i64 0] 96)).alloc (.cells #[.int .i64 0, .int .i64 0, .int .i64 0] 96) := ⟨_, rfl⟩
                rw [← hV]
                have htv : Touch 0 0 W0 V := by rw [hV]; exact ((Touch.refl _ _ _).alloc _).alloc _
                have hbw : Below w2.heap.size w2 V := by
                  have hbw := HBW0.out
                  have hz := hbw.size
                  rw [hV]
                  (repeat (first | with_reducible exact Below.refl _ _ | with_reducible exact hbw | (with_reducible refine Below.setCell ?_ ?_ _; rotate_left; · first | exact Nat.le_refl _ | omega | (simp; done) | (simp; omega)) | (with_reducible refine Below.alloc ?_ ?_ _; rotate_left; · first | exact Nat.le_refl _ | omega | (simp; done) | (simp; omega)) | with_reducible refine below_drewN ?_ _ | with_reducible refine Below.drew ?_))
                have P1 : Box V W0.heap.size [.int .i64 0, .int .i64 0, .int .i64 0] := by
                  rw [hV]; exact (Box.alloc W0 _ _ _ rfl).mono (belowA _ _)
                have P2 : Box V (W0.heap.size + 1) [.int .i64 0, .int .i64 0, .int .i64 0] := by
                  rw [hV]; exact Box.alloc _ _ _ _ (by simp)
                clear hV
                have hz0 := HBW0.out.size
                have r0 := P1.at' 0 _ rfl
                have r1' := P1.at' 1 _ rfl
                have r2' := P1.at' 2 _ rfl
                have s0 := P2.at' 0 _ rfl
                have s1 := P2.at' 1 _ rfl
                have s2 := P2.at' 2 _ rfl
                have fr0 := P1.fr 0
                have fr1 := P1.fr 1
                have fr2 := P1.fr 2
                have fs0 := P2.fr 0
                have fs1 := P2.fr 1
                have fs2 := P2.fr 2
                have lt1 := P1.lt
                have lt2 := P2.lt
                (with_reducible refine wpT_one 13 (by kernel_rfl) ?_); simp only [List.getElem?_toArray, List.getElem?_cons_zero, List.getElem?_cons_succ]
                go_wp2_with fail
                refine ⟨((htv.setNew (by simp only; omega) _).setNew (by simp only; omega) _).setNew (by simp only; omega) _, ?_⟩
                (with_reducible refine wpT_one 14 (by kernel_rfl) ?_); simp only [List.getElem?_toArray, List.getElem?_cons_zero, List.getElem?_cons_succ]
                go_wp2_with fail
                refine ⟨(((((htv.setNew (by simp only; omega) _).setNew (by simp only; omega) _).setNew (by simp only; omega) _).setNew (by simp only; omega) _).setNew (by simp only; omega) _).setNew (by simp only; omega) _, ?_⟩
                ((with_reducible refine wpT_done (by kernel_rfl) ?_ _); refine NoPanic.normal ?_)
                obtain ⟨V1, hV1⟩ : ∃ V1, V1 = ((V.setCell ⟨(W0.heap.size + 1), 0, none⟩ (.int .i64 z.outer)).setCell ⟨(W0.heap.size + 1), 1, none⟩ (.int .i64 z.inner)).setCell ⟨(W0.heap.size + 1), 2, none⟩ (.int .i64 z.height) := ⟨_, rfl⟩
                rw [← hV1]
                obtain ⟨V2, hV2⟩ : ∃ V2, V2 = ((V1.setCell ⟨W0.heap.size, 0, none⟩ (.int .i64 y.outer)).setCell ⟨W0.heap.size, 1, none⟩ (.int .i64 y.inner)).setCell ⟨W0.heap.size, 2, none⟩ (.int .i64 y.height) := ⟨_, rfl⟩
                rw [← hV2]
                have PA : Box V (W0.heap.size + 1) [.int .i64 0, .int .i64 0, .int .i64 0] := by first | exact P1 | exact P2
                have PB : Box V W0.heap.size [.int .i64 0, .int .i64 0, .int .i64 0] := by first | exact P1 | exact P2
                have t1 : Touch (W0.heap.size + 1) ((W0.heap.size + 1) + 1) V V1 := by rw [hV1]; (repeat (first | with_reducible exact Touch.refl _ _ _ | with_reducible exact htc | (with_reducible refine Touch.setCell ?_ ?_ _; rotate_left; · (simp only; omega)) | (with_reducible refine Touch.setNew ?_ ?_ _; rotate_left; · (first | (simp only; omega) | (simp; done) | (simp; omega))) | with_reducible refine Touch.alloc ?_ _ | with_reducible refine Touch.drewN ?_ _ | with_reducible refine Touch.drew ?_))
                have t2 : Touch W0.heap.size (W0.heap.size + 1) V1 V2 := by rw [hV2]; (repeat (first | with_reducible exact Touch.refl _ _ _ | with_reducible exact htc | (with_reducible refine Touch.setCell ?_ ?_ _; rotate_left; · (simp only; omega)) | (with_reducible refine Touch.setNew ?_ ?_ _; rotate_left; · (first | (simp only; omega) | (simp; done) | (simp; omega))) | with_reducible refine Touch.alloc ?_ _ | with_reducible refine Touch.drewN ?_ _ | with_reducible refine Touch.drew ?_))
                have A1 := ((PA.set (.int .i64 z.outer) (j := 0) (by simp)).set (.int .i64 z.inner) (j := 1) (by simp)).set (.int .i64 z.height) (j := 2) (by simp)
                simp only [List.set_cons_zero, List.set_cons_succ] at A1
                rw [← hV1] at A1
                replace A1 := A1.touch t2 (by omega)
                have A2 := (((PB.touch t1 (by omega)).set (.int .i64 y.outer) (j := 0) (by simp)).set (.int .i64 y.inner) (j := 1) (by simp)).set (.int .i64 y.height) (j := 2) (by simp)
                simp only [List.set_cons_zero, List.set_cons_succ] at A2
                rw [← hV2] at A2
                have HBV := Lib.hid (show Below w2.heap.size w2 V2 from Touch.below t2 (Touch.below t1 hbw (by omega) hbw.size) (by omega) (by have := hbw.size; have := t1.size; omega))
                clear t1 t2 hV1 hV2 PA PB P1 P2 htv hbw r0 r1' r2' s0 s1 s2 fr0 fr1 fr2 fs0 fs1 fs2 c0 c1 d0 d1 d2 f0 f1 f2
                have a0 := A1.at' 0 _ rfl
                have a1 := A1.at' 1 _ rfl
                have a2 := A2.at' 0 _ rfl
                have a3 := A2.at' 1 _ rfl
                have l1 := A1.lt
                have l2 := A2.lt
                by_cases j1 : z.inner < y.outer
                · have e1 : decide (y.outer ≤ z.inner) = false := decide_eq_false (by omega)
                  by_cases j2 : y.inner < z.outer
                  · have e2 : decide (z.outer ≤ y.inner) = false := decide_eq_false (by omega)
                    have HM := Lib.hid (show ringAt x.rings k from ⟨HRK.out k hlt, .inr (by rw [GY.out, GZ.out]; exact ⟨j1, j2⟩)⟩)
                    clear j1 j2
                    go_wp2
                    go_roundw
                    case rel => exact ⟨k + 1, by omega, by omega, by go_num, prf_step HT.out HM.out, HBV.out⟩
                    case measure => simp [intOf]; omega
                  · have e2 : decide (z.outer ≤ y.inner) = true := decide_eq_true (by omega)
                    have HX := Lib.hid (show r = false by rw [HR.out]; exact decide_eq_false (prf_no hlt (fun h => by have h2 := h.2; rcases h2 with e | e; omega; rw [GY.out, GZ.out] at e; exact j2 e.2)))
                    go_wp2
                    go_ret
                    exact ⟨by rw [HX.out]; rfl, HBW.out.trans (HBV.out.mono HBW.out.size)⟩
                · have e1 : decide (y.outer ≤ z.inner) = true := decide_eq_true (by omega)
                  have HX := Lib.hid (show r = false by rw [HR.out]; exact decide_eq_false (prf_no hlt (fun h => by have h2 := h.2; rcases h2 with e | e; omega; rw [GY.out, GZ.out] at e; exact j1 e.1)))
                  go_wp2
                  go_ret
                  exact ⟨by rw [HX.out]; rfl, HBW.out.trans (HBV.out.mono HBW.out.size)⟩
            · have HA := Lib.hid (show ∀ i, i < x.rings.length → ringAt x.rings i from fun i hi => HT.out i (by omega))
              go_wp2_with fail
              refine (height_any _ x _ ⟨_, rfl, HI.out⟩ HRK.out G3.out).mono ?_
              rintro e w3 ⟨rfl, hb3⟩
              have HB3 := Lib.hid ((HBW.out.trans (HB.out.mono HBW.out.size)).trans (hb3.mono (HBW.out.trans (HB.out.mono HBW.out.size)).size))
              clear hb3
              obtain ⟨t, ht⟩ : ∃ t, t = hgt x.rings := ⟨_, rfl⟩
              rw [← ht]
              have HTT := Lib.hid ht
              clear ht
              by_cases g5 : t ≤ 300000
              · have e5 : decide (t ≤ 300000) = true := decide_eq_true g5
                have HX := Lib.hid (show r = true by rw [HR.out]; exact decide_eq_true ⟨of_decide_eq_true HR1.out.symm, ⟨G2.out, G3.out⟩, HA.out, by rw [← HTT.out]; exact g5⟩)
                go_wp2
                go_ret
                exact ⟨by rw [HX.out]; rfl, HB3.out⟩
              · have e5 : decide (t ≤ 300000) = false := decide_eq_false g5
                have HX := Lib.hid (show r = false by rw [HR.out]; exact decide_eq_false (fun h => g5 (by rw [HTT.out]; exact h.2.2.2)))
                go_wp2
                go_ret
                exact ⟨by rw [HX.out]; rfl, HB3.out⟩
      · have e3 : decide (32 < (x.rings.length : Int)) = true := decide_eq_true (by omega)
        have e3' : decide (32 < x.rings.length) = true := decide_eq_true (by omega)
        have HX := Lib.hid (show r = false by rw [HR.out]; exact decide_eq_false (fun h => g3 h.2.1.2))
        go_wp2
        go_ret
        exact ⟨by rw [HX.out]; rfl, HBW.out⟩
    · have e2 : decide ((x.rings.length : Int) < 1) = true := decide_eq_true (by omega)
      have e2' : decide (x.rings.length < 1) = true := decide_eq_true (by omega)
      have HX := Lib.hid (show r = false by rw [HR.out]; exact decide_eq_false (fun h => g2 h.2.1.1))
      go_wp2
      go_ret
      exact ⟨by rw [HX.out]; rfl, HBW.out⟩
end Go.Proofs.YtenedpboehkmjaaGreat
/- The laws' copy of a slice of slices of numbers: memory of its own, row by row. -/
set_option linter.unusedSimpArgs false
set_option linter.unnecessarySimpa false
set_option linter.unusedVariables false
set_option maxRecDepth 100000
namespace Go.Proofs.YtenedpboehkmjaaGreat
open Go.RowKit

/-- Two slices that do not lie in one block of their own. -/
def apart (a b : Value) : Prop := a.ownBlock = none ∨ a.ownBlock ≠ b.ownBlock
theorem apart.symm {a b : Value} (h : apart a b) : apart b a := by
  rcases h with h | h
  · cases hb : b.ownBlock with
    | none => exact .inl hb
    | some k => exact .inr (by rw [hb, h]; simp)
  · exact .inr fun e => h e.symm
/-- v owns rows of numbers: its row and each one's, in blocks from B to E, all apart. -/
def OwnIntss (B E : Nat) (w : World) (v : Value) (xs : List (List Int)) : Prop := ∃ ys : List (Value × List Int), ys.map Prod.snd = xs ∧ OwnRow B E w 22 1 v ys.length (ys.map Prod.fst) ∧
  (∀ y ∈ ys, OwnRow B E w 2 1 y.1 y.2.length (y.2.map (Value.int .i64))) ∧ (∀ y ∈ ys, apart v y.1) ∧ (ys.map Prod.fst).Pairwise apart
section
variable {B E B' E' : Nat} {w w' : World} {v : Value} {x : List (List Int)}
theorem OwnIntss.mono (h : OwnIntss B E w v x) (hb : Below w.heap.size w w') : OwnIntss B E w' v x := by
  obtain ⟨ys, e, h1, h2, h3⟩ := h
  exact ⟨ys, e, h1.mono hb, fun y hy => (h2 y hy).mono hb, h3⟩
theorem OwnIntss.touch (h : OwnIntss B E w v x) (t : Touch B' E' w w') (hd : E ≤ B' ∨ E' ≤ B) : OwnIntss B E w' v x := by
  obtain ⟨ys, e, h1, h2, h3⟩ := h
  exact ⟨ys, e, h1.touch t hd, fun y hy => (h2 y hy).touch t hd, h3⟩
theorem OwnIntss.wide (h : OwnIntss B E w v x) (hB : B' ≤ B) (hE : E ≤ E') : OwnIntss B' E' w v x := by
  obtain ⟨ys, e, h1, h2, h3⟩ := h
  exact ⟨ys, e, h1.wide hB hE, fun y hy => (h2 y hy).wide hB hE, h3⟩
theorem OwnIntss.rd (h : OwnIntss B E w v x) : RdIntss w v x := by
  obtain ⟨ys, e, h1, h2, h3⟩ := h
  exact ⟨ys, e, h1.sl, fun y hy => (h2 y hy).sl⟩
theorem OwnIntss.form (h : OwnIntss B E w v x) : ∃ a cap, v = .slice a x.length cap := h.rd.form
end

theorem info_ints : (Tryz.prog.info? 22).map (fun i => (i.zero, i.size, i.bytes)) = some (some (.slice none 0 0), 1, 24) := by kernel_rfl

set_option maxHeartbeats 1000000 in
theorem toIntssK (v1 : Value) (xs : List (List Int)) (w : World) (h1 : RdIntss w v1 xs) (hs : szIntss xs ≤ 1048576) :
    Calls Tryz.prog 25 #[v1] w fun e w' => ∃ v, e = .returned v ∧ OwnIntss w.heap.size w'.heap.size w' v xs ∧ Below w.heap.size w w' := by
  obtain ⟨a, ca, rfl, _, hm⟩ := h1.form'
  obtain ⟨i0, hi, hz0, hz1, hz2⟩ := info_parts info_ints
  have hn := szIntss_len xs
  have HS := Lib.hid hs; have HN := Lib.hid hn; clear hs hn
  go_enter Tryz.func25, Tryz.ntmps25
  go_wp2_with (at_make; refine wpList_make_full _ rfl _ _ 23 rfl w.heap.size 22 i0 (.slice none 0 0) 1 Tryz.underlying23 hi hz0 hz1 _ _ _ _ xs.length rfl rfl rfl rfl (by rw [hz2]; have := HS.out; have := HN.out; omega) (by have := HS.out; have := HN.out; unfold maxLen; omega) (Nat.le_refl _) ?_)
  intro w1 hown hgrow
  have hb1 : Below w.heap.size w w1 := (Below.refl _ _).grown hgrow (Nat.le_refl _) (by simp)
  go_wp2
  go_loopw [4] (fun i wr => ∃ (k : Nat) (ys : List (Value × List Int)), k ≤ xs.length ∧ i = .int .i64 k ∧ ys.map Prod.snd = xs.take k ∧ wr.ownsRow w.heap.size 22 1 (.slice (some ⟨w.heap.size, 0, none⟩) xs.length xs.length) xs.length (ys.map Prod.fst ++ List.replicate (xs.length - k) (.slice none 0 0)) ∧ (∀ y ∈ ys, OwnRow (w.heap.size + 1) wr.heap.size wr 2 1 y.1 y.2.length (y.2.map (Value.int .i64))) ∧ (ys.map Prod.fst).Pairwise apart ∧ w.heap.size < wr.heap.size ∧ Below w.heap.size w wr) (fun i _ => xs.length - (intOf i).toNat)
  case atStart => exact ⟨0, [], Nat.zero_le _, rfl, rfl, by simpa [toList_madeCells_one, Value.cells] using hown, by simp, by simp, (hown.lt w.heap.size rfl).2, hb1⟩
  case round =>
    obtain ⟨k, ys, hk, rfl, hys, ho, hL, hP, hz, hb⟩ := hrel
    clear hown hgrow hb1
    have HY := Lib.hid hys; clear hys
    have HP := Lib.hid hP; clear hP
    have HL := Lib.hid hL; clear hL
    by_cases hlt : k < xs.length
    · obtain ⟨b1, o1, lv, c1, rfl, hB, c0, hv⟩ := (h1.mono hb).at hlt
      have hm : xs.length ≤ 1048576 := by have := HS.out; have := HN.out; omega
      have hm2 : xs[k].length ≤ 1048576 := by have := HS.out; have := szIntss_at hlt; omega
      go_wp2_with fail
      refine (toInts_any _ xs[k] _ hv hm2).mono ?_
      rintro e w2 ⟨lv', rfl, hol, hb2⟩
      obtain ⟨a', cap', rfl⟩ := owns_slice hol
      have ho2 := owns_mono ho hb2
      have hlen : ys.length = k := by have := congrArg List.length HY.out; simpa [Nat.min_eq_left hk] using this
      have hal : (ys.map Prod.fst).length = k := by simpa using hlen
      rw [show xs.length - k = (xs.length - (k + 1)) + 1 by omega, List.replicate_succ] at ho2
      have d0 : w2.cell? ⟨w.heap.size, k, none⟩ = some (.slice none 0 0) := by rw [ho2.cellAt _ (by omega), List.getElem?_append_right (by omega), hal]; simp
      have f0 := ho2.frozenAt k
      have HA := Lib.hid hal; have HO := Lib.hid ho2; have HE := Lib.hid hlen; clear hal ho2 ho hlen
      have HOL := Lib.hid hol; clear hol
      go_wp2
      have e' := stored1 HO.out HA.out (.slice a' xs[k].length cap')
      have hz2 := hb2.size
      refine ⟨⟨k + 1, ys ++ [(.slice a' xs[k].length cap', xs[k])], by omega, by go_num, ?_, ?_, ?_, ?_, ?_, ?_⟩, by simp [intOf]; omega⟩
      · rw [List.map_append, HY.out, List.take_succ_eq_append_getElem hlt]; rfl
      · rw [List.map_append, List.append_assoc]; exact e'.1
      · intro y hy
        rcases List.mem_append.1 hy with hy | hy
        · exact (((HL.out y hy).mono hb2).touch (B' := w.heap.size) (E' := w.heap.size + 1) (by (repeat (first | with_reducible exact Touch.refl _ _ _ | with_reducible exact htc | (with_reducible refine Touch.setCell ?_ ?_ _; rotate_left; · (simp only; omega)) | (with_reducible refine Touch.setNew ?_ ?_ _; rotate_left; · (first | (simp only; omega) | (simp; done) | (simp; omega))) | with_reducible refine Touch.alloc ?_ _ | with_reducible refine Touch.drewN ?_ _ | with_reducible refine Touch.drew ?_))) (by omega)).wide (Nat.le_refl _) (by simp; omega)
        · simp only [List.mem_singleton] at hy
          subst hy
          exact ((OwnRow.mk' HOL.out).touch (B' := w.heap.size) (E' := w.heap.size + 1) (by (repeat (first | with_reducible exact Touch.refl _ _ _ | with_reducible exact htc | (with_reducible refine Touch.setCell ?_ ?_ _; rotate_left; · (simp only; omega)) | (with_reducible refine Touch.setNew ?_ ?_ _; rotate_left; · (first | (simp only; omega) | (simp; done) | (simp; omega))) | with_reducible refine Touch.alloc ?_ _ | with_reducible refine Touch.drewN ?_ _ | with_reducible refine Touch.drew ?_))) (by omega)).wide (by omega) (by simp)
      · rw [List.map_append, List.pairwise_append]
        refine ⟨HP.out, by simp, fun a1 ha b hb' => ?_⟩
        simp only [List.map_cons, List.map_nil, List.mem_singleton] at hb'
        subst hb'
        obtain ⟨y, hy, rfl⟩ := List.mem_map.1 ha
        cases hv1 : y.1.ownBlock with
        | none => exact .inl hv1
        | some q =>
          refine .inr fun e2 => ?_
          have h5 := (HL.out y hy).2 q hv1
          have h6 := (HOL.out.lt q (by rw [← e2, hv1])).1
          omega
      · simp; omega
      · exact (hb.trans (hb2.mono hb.size)).grown e'.2 (by omega) (by intro k hk; cases hk; exact Nat.le_refl _)
    · obtain rfl : k = xs.length := by omega
      go_wp2
      go_ret
      refine ⟨_, rfl, ⟨ys, by rw [HY.out, List.take_length], ⟨?_, ?_⟩, fun y hy => (HL.out y hy).wide (by omega) (Nat.le_refl _), fun y hy => ?_, HP.out⟩, hb⟩
      · have := ho
        rw [Nat.sub_self] at this
        have hlen : ys.length = xs.length := by have := congrArg List.length HY.out; simpa using this
        rw [hlen]
        simpa using this
      · intro k hk; cases hk; omega
      · refine .inr fun e2 => ?_
        have h6 := ((HL.out y hy).1.lt w.heap.size (by rw [← e2]; rfl)).1
        omega

end Go.Proofs.YtenedpboehkmjaaGreat
/- Contracts of the laws' marks over slices of numbers. -/
set_option linter.unusedSimpArgs false
set_option linter.unnecessarySimpa false
set_option linter.unusedVariables false
namespace Go.Proofs.YtenedpboehkmjaaGreat
open Go.RowKit

set_option maxHeartbeats 400000 in
theorem markInts_any (v : Value) (n base : Nat) (te : TypeId) (cs : List Value) (k : Nat) (w : World) (ho : w.ownsRow base te 1 v n cs) (hk : k + 1 * n ≤ 1000000000) :
    Calls Tryz.prog 38 #[v, .int .i64 k] w fun e w' => e = .returned (.int .i64 ↑(k + n * 1)) ∧ w'.ownsRow base te 1 v n (marks k (n * 1)) ∧ w.grownBy w' v.ownBlock := by
  rcases id ho with ⟨hl, ⟨rfl, rfl⟩ | ⟨g, cap, cur, rfl, hbase, hg, hn, hc, hs, ht⟩⟩
  · have hcs : cs = [] := by simpa using hl
    subst hcs
    go_enter Tryz.func38, Tryz.ntmps38
    go_wp2
    refine wp_loop_rounds 1 ?_
    rw [rounds_succ]
    go_wp2
    go_ret
    exact ⟨by simp, by simpa [marks] using ho, World.grownBy.refl _ _⟩
  · clear hg ht hs
    unfold maxLen at hc
    have HL := Lib.hid hl; clear hl
    go_enter Tryz.func38, Tryz.ntmps38
    go_wp2
    go_loopw [1, 5] (fun q i wr => ∃ t : Nat, t ≤ n ∧ i = .int .i64 t ∧ q = .int .i64 ↑(k + t) ∧ wr.ownsRow base te 1 (.slice (some ⟨g, 0, none⟩) n cap) n (marks k t ++ cs.drop t) ∧ w.grownBy wr (some g)) (fun _ i _ => n - (intOf i).toNat)
    case atStart => exact ⟨0, Nat.zero_le _, rfl, by simp, by simpa [marks] using ho, World.grownBy.refl _ _⟩
    case round =>
      obtain ⟨t, ht, rfl, rfl, hw, hg⟩ := hrel
      by_cases hlt : t < n
      · have hlen := HL.out
        have x0 : (marks k t ++ cs.drop t)[t]? = some (cs.getD t .nilFunc) := marks_at _ _ _ 0 (by rw [hlen]; omega)
        have d0 : wr.cell? ⟨g, t, none⟩ = some (cs.getD t .nilFunc) := by rw [hw.cellAt _ (by omega)]; exact x0
        have f0 := hw.frozenAt t
        have HW := Lib.hid hw
        clear hw hlen x0
        go_wp2
        have hlen := HL.out
        have q1 := (HW.out).stored t (.int .i64 ↑(k + t))
        rw [marks_set k t cs (by rw [hlen]; omega)] at q1
        have z0 : ((k + t : Nat) : Int) = (k : Int) + (t : Int) := by omega
        simp only [z0] at q1
        exact ⟨⟨t + 1, by omega, by go_num, by go_num, q1.1, grown_trans hg q1.2⟩, by simp [intOf]; omega⟩
      · go_wp2
        go_ret
        obtain rfl : t = n := by omega
        exact ⟨by simp, by have := hw; rw [List.drop_of_length_le (by rw [HL.out]; omega), List.append_nil] at this; simpa using this, hg⟩

end Go.Proofs.YtenedpboehkmjaaGreat
/- The laws' marks over slices of numbers, in the form that the laws' walks take. -/
set_option linter.unusedSimpArgs false
set_option linter.unnecessarySimpa false
set_option linter.unusedVariables false
namespace Go.Proofs.YtenedpboehkmjaaGreat
open Go.RowKit

theorem markIntsK (B E : Nat) (v : Value) (xs : List Int) (k : Int) (w : World) (h : OwnInts B E w v xs) (h0 : 0 ≤ k) (hk : k + xs.length * 1 ≤ 1000000000) :
    Calls Tryz.prog 38 #[v, .int .i64 k] w fun e w' => e = .returned (.int .i64 (k + xs.length * 1)) ∧ MkInts B E w' v xs k ∧ Touch B E w w' := by
  obtain ⟨j, rfl⟩ := Int.eq_ofNat_of_zero_le h0
  refine (markInts_any v xs.length B _ _ j w h.1 (by omega)).mono fun e w' ⟨he, ho, hg⟩ => ⟨by rw [he]; congr 2 <;> omega, ⟨by rw [marksI_nat]; exact ho, h.2⟩, Touch.of_grown hg fun k hk => ⟨(h.1.lt k hk).1, h.2 k hk⟩⟩
end Go.Proofs.YtenedpboehkmjaaGreat
