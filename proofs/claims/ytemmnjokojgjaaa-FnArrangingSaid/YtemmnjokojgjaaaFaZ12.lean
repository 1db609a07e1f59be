import Derived.Test.YtemmnjokojgjaaaFaZ11
import Derived.Test.YtemmnjokojgjaaaFaZ9
import Derived.Test.YtemmnjokojgjaaaFaZ2
/- What the law FnArranging asks, plain. -/
set_option linter.unusedSimpArgs false
set_option linter.unnecessarySimpa false
set_option linter.unusedVariables false
set_option maxRecDepth 100000
namespace Go.Proofs.Ytemmnjokojgjaaa
open Go.RowKit

/-- A step adds no tone, or one new tone at the end. -/
theorem ar_cases (ns : List Int) (b : Int) (s : List Ton × List Bool) (x : Ton) :
    ((arStep ns b s x).1.length = s.1.length ∧ ∀ y ∈ (arStep ns b s x).1, y ∈ s.1 ∨ (y = arTon ns b x ∧ ¬ placeV ns (x.note + b) < 0)) ∨ (¬ placeV ns (x.note + b) < 0 ∧ arStep ns b s x = (s.1 ++ [arTon ns b x], s.2 ++ [arMv ns b x])) := by
  by_cases hp : placeV ns (x.note + b) < 0
  · left; rw [ar_drop hp]; exact ⟨rfl, fun y hy => .inl hy⟩
  · by_cases hn : ∀ j (hj : j < s.1.length), snB (arTon ns b x) s.1[j] = false
    · right; exact ⟨hp, ar_new hp hn⟩
    · left
      have : ∃ k, s.1.findIdx? (snB (arTon ns b x)) = some k := by
        cases h : s.1.findIdx? (snB (arTon ns b x)) with
        | some k => exact ⟨k, rfl⟩
        | none =>
          rw [List.findIdx?_eq_none_iff] at h
          exact absurd (fun j hj => h _ (List.getElem_mem hj)) hn
      obtain ⟨k, hk⟩ := this
      obtain ⟨hk1, hk2, hk3⟩ := List.findIdx?_eq_some_iff_getElem.1 hk
      have hk4 : ∀ j (hj : j < s.1.length), j < k → snB (arTon ns b x) s.1[j] = false := fun j hj h => by simpa using hk3 j h
      by_cases hl : s.1[k].len < x.len
      · rw [ar_set hp hk1 hk2 hk4 hl]
        refine ⟨by simp, fun y hy => ?_⟩
        rcases List.mem_or_eq_of_mem_set hy with h | h
        · exact .inl h
        · exact .inr ⟨h, hp⟩
      · rw [ar_keep hp hk1 hk2 hk4 hl]
        exact ⟨rfl, fun y hy => .inl hy⟩
theorem ar_notes {ns : List Int} {b : Int} {ts : List Ton} : ∀ k, k ≤ ts.length → ∀ y ∈ (arTo ns b ts k).1, y.note ∈ ns
  | 0, _, y, hy => by cases hy
  | k + 1, hk, y, hy => by
    have ih := ar_notes (ns := ns) (b := b) (ts := ts) k (by omega)
    rw [arTo_at (by omega : k < ts.length)] at hy
    have hin : ∀ x : Ton, ¬ placeV ns (x.note + b) < 0 → (arTon ns b x).note ∈ ns := fun x h => by
      rcases place_in ns (x.note + b) with e | e
      · omega
      · exact e
    rcases ar_cases ns b (arTo ns b ts k) ts[k] with ⟨_, h⟩ | ⟨h1, h2⟩
    · rcases h y hy with h | ⟨rfl, h⟩
      · exact ih y h
      · exact hin _ h
    · rw [h2] at hy
      rcases List.mem_append.1 hy with h | h
      · exact ih y h
      · rw [List.mem_singleton.1 h]; exact hin _ h1
theorem ar_len {ns : List Int} {b : Int} {ts : List Ton} : ∀ k, k ≤ ts.length → (arTo ns b ts k).1.length ≤ k
  | 0, _ => Nat.le_refl _
  | k + 1, hk => by
    have ih := ar_len (ns := ns) (b := b) (ts := ts) k (by omega)
    rw [arTo_at (by omega : k < ts.length)]
    rcases ar_cases ns b (arTo ns b ts k) ts[k] with ⟨h, _⟩ | ⟨h1, h2⟩
    · omega
    · rw [h2]; simp; omega
/-- Nothing dropped: each tone became one of its own. -/
theorem ar_full {ns : List Int} {b : Int} {ts : List Ton} : ∀ k, k ≤ ts.length → (arTo ns b ts k).1.length = k → (∀ j (hj : j < ts.length), j < k → ¬ placeV ns (ts[j].note + b) < 0) ∧ (arTo ns b ts k).2 = (ts.take k).map (arMv ns b)
  | 0, _, _ => ⟨fun j hj h => by omega, rfl⟩
  | k + 1, hk, hl => by
    have hkt : k < ts.length := by omega
    have hle := ar_len (ns := ns) (b := b) (ts := ts) k (by omega)
    rw [arTo_at hkt] at hl ⊢
    rcases ar_cases ns b (arTo ns b ts k) ts[k] with ⟨h, _⟩ | ⟨h1, h2⟩
    · omega
    · rw [h2] at hl ⊢
      simp at hl
      obtain ⟨i1, i2⟩ := ar_full (ns := ns) (b := b) (ts := ts) k (by omega) hl
      refine ⟨fun j hj hj2 => ?_, ?_⟩
      · by_cases e : j = k
        · subst e; exact h1
        · exact i1 j hj (by omega)
      · rw [i2, List.take_succ_eq_append_getElem hkt, List.map_append]; rfl
theorem mv_zero {l : List Bool} : ∀ k, mvCnt l k = 0 → ∀ j, j < k → l.getD j false = false
  | 0, _, j, h => by omega
  | k + 1, h, j, hj => by
    have hb := mv_bd l k
    by_cases e : l.getD k false = true
    · rw [mv_yes e] at h; omega
    · have e' : l.getD k false = false := by simpa using e
      rw [mv_no e'] at h
      by_cases hjk : j = k
      · subst hjk; exact e'
      · exact mv_zero k h j (by omega)
theorem mv_none {l : List Bool} (h : ∀ j, l.getD j false = false) : ∀ k, mvCnt l k = 0
  | 0 => rfl
  | k + 1 => by rw [mv_no (h k)]; exact mv_none h k
theorem place_self {ns : List Int} {n : Int} (h : n ∈ ns) : placeV ns n = n := by
  have := pf_lo (notes := ns) (note := n) (f := 16) (k := 0) (by simpa using h)
  unfold placeV; rw [this]; simp
/-- All bells there: each tone is kept as it is. -/
theorem ar_same {ns : List Int} {b : Int} {ts : List Ton} (hs : SetIn ns) (hst : Stc ts) (h : ∀ x ∈ ts, x.note + b ∈ ns) : ∀ k, k ≤ ts.length → arTo ns b ts k = ((ts.take k).map (fun x => (⟨x.note + b, x.start, x.len⟩ : Ton)), (ts.take k).map fun _ => false)
  | 0, _ => rfl
  | k + 1, hk => by
    have hkt : k < ts.length := by omega
    have ih := ar_same hs hst h k (by omega)
    have hm := h _ (List.getElem_mem hkt)
    have hp := place_self hm
    have h0 : ¬ placeV ns (ts[k].note + b) < 0 := by rw [hp]; have := hs _ hm; omega
    rw [arTo_at hkt, ih, ar_new h0]
    · simp only
      rw [List.take_succ_eq_append_getElem hkt, List.map_append, List.map_append]
      simp [arTon, arMv, hp]
    · intro j hj
      simp only [List.length_map, List.length_take] at hj
      simp only [List.getElem_map, List.getElem_take]
      have hb := List.pairwise_iff_getElem.1 hst j k (by omega) hkt (by omega)
      rw [Bool.eq_false_iff]
      intro hh
      obtain ⟨a1, a2⟩ := snB_iff.1 hh
      simp only [arTon, hp] at a1 a2
      unfold before at hb
      omega
theorem miss_zero {x : TunD} {ns : List Int} {b : Int} : missV x ns b = 0 ↔ ∀ t ∈ x.tones, t.note + b ∈ ns := by
  unfold missV missL
  constructor
  · intro h t ht
    have h' : (x.tones.filter fun x => decide (x.note + b ∉ ns)) = [] := List.length_eq_zero_iff.1 (by omega)
    rw [List.filter_eq_nil_iff] at h'
    have := h' t ht
    simpa using this
  · intro h
    have h' : (x.tones.filter fun x => decide (x.note + b ∉ ns)) = [] := by
      rw [List.filter_eq_nil_iff]
      intro t ht
      simpa using h t ht
    rw [h']; rfl
theorem cost_zero {x : TunD} {ns : List Int} {b : Int} (hx : validTunB x = true) (hs : SetIn ns) : missV x ns b = 0 ↔ arC x ns b = 0 := by
  have hst := tones_stc (validTunB_iff.1 hx).tones
  rw [miss_zero]
  constructor
  · intro h
    have e := ar_same hs hst h x.tones.length (Nat.le_refl _)
    have hd : arD x ns b = 0 := by unfold arD; rw [e]; simp
    have hm : arM x ns b = 0 := by
      unfold arM
      rw [e]
      exact mv_none (fun j => by
        rw [List.getD_eq_getElem?_getD, List.getElem?_map]
        cases (x.tones.take x.tones.length)[j]? <;> rfl) _
    unfold arC; omega
  · intro h
    have hb := ar_bd (b := b) hx hs
    unfold arC at h
    have hd : arD x ns b = 0 := by omega
    have hm : arM x ns b = 0 := by omega
    unfold arD at hd
    obtain ⟨f1, f2⟩ := ar_full (ns := ns) (b := b) (ts := x.tones) x.tones.length (Nat.le_refl _) (by omega)
    unfold arM at hm
    have hz := mv_zero _ hm
    intro t ht
    obtain ⟨k, hk, rfl⟩ := List.getElem_of_mem ht
    have h1 := f1 k hk hk
    have h2 := hz k (by omega)
    rw [f2, List.getD_eq_getElem?_getD, List.getElem?_map, List.take_length, List.getElem?_eq_getElem hk] at h2
    simp only [Option.map_some, Option.getD_some, arMv] at h2
    have h3 : placeV ns (x.tones[k].note + b) = x.tones[k].note + b := by simpa using h2
    rcases place_in ns (x.tones[k].note + b) with e | e
    · omega
    · rw [← h3]; exact e
/-- What holds of an arranged tune. -/
theorem arr_fn {x : TunD} {ns : List Int} {b : Int} (h : askC x ns b = 0) :
    validTunB (atV x ns b) = true ∧ acoV x ns b = atM x ns b + 10 * atD x ns b ∧ askC (atV x ns b) ns 0 = 0 ∧ mtV (atV x ns b) ns 0 = 0 ∧ ((atV x ns b).tones.length : Int) + atD x ns b = x.tones.length ∧ atM x ns b ≤ (atV x ns b).tones.length ∧ (mtV x ns b = 0 ↔ acoV x ns b = 0) ∧ (0 ≤ atM x ns b ∧ atM x ns b ≤ 128) ∧ (0 ≤ atD x ns b ∧ atD x ns b ≤ 128) := by
  obtain ⟨hx, hv, hb⟩ := ask_zero.1 h
  have hs := set_in hv
  obtain ⟨e1, e2, e3⟩ := at_yes h
  have hbd := ar_bd (b := b) hx hs
  have hp := sortT_perm (arK x ns b)
  have hval := ar_valid (b := b) hx hs (d := sortT (arK x ns b)) hp (sortT_srt _)
  have et : arT x ns b = ⟨x.name, sortT (arK x ns b)⟩ := (to_yes hp (sortT_srt _) hval).1
  rw [← et] at hval
  have hlen : (arT x ns b).tones.length = (arTo ns b x.tones x.tones.length).1.length := by rw [et]; exact hp.length_eq
  have eaco : acoV x ns b = arC x ns b := if_pos h
  have em : mtV x ns b = missV x ns b := if_pos h
  rw [e1, e2, e3, eaco, em]
  have hask : askC (arT x ns b) ns 0 = 0 := ask_ok hval hv ⟨by omega, by omega⟩
  refine ⟨hval, rfl, hask, ?_, ?_, ?_, cost_zero hx hs, ⟨hbd.1, hbd.2.1⟩, ⟨hbd.2.2.1, hbd.2.2.2⟩⟩
  · have : mtV (arT x ns b) ns 0 = missV (arT x ns b) ns 0 := if_pos hask
    rw [this, miss_zero]
    intro t ht
    rw [et] at ht
    have := ar_notes (ns := ns) (b := b) (ts := x.tones) x.tones.length (Nat.le_refl _) t (hp.mem_iff.1 ht)
    simpa using this
  · rw [hlen]; unfold arD; omega
  · rw [hlen]; exact (mv_bd _ _).2
theorem arr_bad {x : TunD} {ns : List Int} {b : Int} (h : ¬ askC x ns b = 0) : acoV x ns b = 0 ∧ (atV x ns b).tones.length = 0 := ⟨if_neg h, by rw [(at_no h).1]; rfl⟩

/-- The place that is found is nearest. -/
theorem near_from (ns : List Int) (n : Int) : ∀ f k : Nat, placeFrom ns n f k = -1 ∨ ∃ j : Nat, k ≤ j ∧ j < k + f ∧ (placeFrom ns n f k = n - 12 * (j : Int) ∨ placeFrom ns n f k = n + 12 * (j : Int)) ∧ placeFrom ns n f k ∈ ns ∧ ∀ i : Nat, k ≤ i → i < j → n - 12 * (i : Int) ∉ ns ∧ n + 12 * (i : Int) ∉ ns
  | 0, k => .inl rfl
  | f + 1, k => by
    by_cases h1 : n - 12 * (k : Int) ∈ ns
    · right; rw [pf_lo h1]; exact ⟨k, Nat.le_refl _, by omega, .inl rfl, h1, fun i h h' => by omega⟩
    · by_cases h2 : n + 12 * (k : Int) ∈ ns
      · right; rw [pf_hi h1 h2]; exact ⟨k, Nat.le_refl _, by omega, .inr rfl, h2, fun i h h' => by omega⟩
      · rw [pf_no h1 h2]
        rcases near_from ns n f (k + 1) with h | ⟨j, j1, j2, j3, j4, j5⟩
        · exact .inl h
        · refine .inr ⟨j, by omega, by omega, j3, j4, fun i hi hij => ?_⟩
          by_cases e : i = k
          · subst e; exact ⟨h1, h2⟩
          · exact j5 i (by omega) hij
def absI (n : Int) : Int := if n < 0 then -n else n
theorem place_fn {ns : List Int} {n : Int} (h : pnC ns n = 0) : pnV ns n ∈ ns ∧ (0 ≤ pnV ns n ∧ pnV ns n ≤ 127) ∧ pnIn n ∧ validSet ns = true ∧ (pnV ns n - n).tmod 12 = 0 ∧ ∀ x ∈ ns, (x - n).tmod 12 = 0 → absI (pnV ns n - n) ≤ absI (x - n) := by
  unfold pnC at h
  split at h
  · rename_i hv
    split at h
    · rename_i hn
      split at h
      · omega
      · rename_i hp
        have hs := set_in hv
        have e : pnV ns n = placeV ns n := by unfold pnV; rw [if_pos hv, if_pos hn, if_neg hp]
        rw [e]
        rcases near_from ns n 17 0 with h | ⟨j, _, _, j3, j4, j5⟩
        · exfalso; apply hp; unfold placeV; rw [h]; omega
        · change placeV ns n = _ ∨ placeV ns n = _ at j3
          change placeV ns n ∈ ns at j4
          refine ⟨j4, hs _ j4, hn, hv, ?_, fun x hx hd => ?_⟩
          · rcases j3 with j3 | j3
            · rw [j3, show n - 12 * (j : Int) - n = 12 * (-(j : Int)) by omega]; exact Int.mul_tmod_right _ _
            · rw [j3, show n + 12 * (j : Int) - n = 12 * (j : Int) by omega]; exact Int.mul_tmod_right _ _
          · obtain ⟨q, hq⟩ := Int.dvd_of_tmod_eq_zero hd
            by_cases hlt : q.natAbs < j
            · exfalso
              obtain ⟨b1, b2⟩ := j5 q.natAbs (Nat.zero_le _) hlt
              rcases Int.natAbs_eq q with e | e
              · exact b2 (by rw [show n + 12 * (q.natAbs : Int) = x by omega]; exact hx)
              · exact b1 (by rw [show n - 12 * (q.natAbs : Int) = x by omega]; exact hx)
            · unfold absI
              rcases j3 with j3 | j3 <;> rw [j3] <;> split <;> split <;> omega
    · omega
  · omega
theorem place_bad {ns : List Int} {n : Int} (h : ¬ pnC ns n = 0) : pnV ns n = 0 := by
  unfold pnC at h
  unfold pnV
  split
  · rename_i hv
    rw [if_pos hv] at h
    split
    · rename_i hn
      rw [if_pos hn] at h
      split
      · rfl
      · rename_i hp; rw [if_neg hp] at h; exact absurd rfl h
    · rfl
  · rfl

end Go.Proofs.Ytemmnjokojgjaaa
/- A region that draws its order in which one variable is made at no fixed time, between the calls: walked once. No program in sight. -/
set_option linter.unusedSimpArgs false
set_option linter.unnecessarySimpa false
set_option linter.unusedVariables false
namespace Go.Proofs.Ytemmnjokojgjaaa
open Go.RowKit

/-- u points to the variable (of block 'obj'), or it is not made yet; it lies in none of the ranges of L. -/
def Fl (w0 : World) (obj : Obj) (L : List (Nat × Nat)) (pd : Bool) (u : Value) (w : World) : Prop :=
  (pd = true ∧ w0.heap.size ≤ w.heap.size ∧ ∀ q ∈ L, q.2 ≤ w.heap.size) ∨
  (pd = false ∧ ∃ b, u = .pointer (some ⟨b, 0, none⟩) ∧ w0.heap.size ≤ b ∧ b < w.heap.size ∧ w.heap[b]? = some obj ∧ ∀ q ∈ L, b < q.1 ∨ q.2 ≤ b)

theorem Fl.start (w0 : World) (obj : Obj) (u : Value) : Fl w0 obj [] true u w0.drew := .inl ⟨rfl, Nat.le_refl _, fun q hq => by cases hq⟩
theorem grown_draw (w : World) : w.grownBy w.drew none := ⟨rfl, rfl, rfl, Nat.le_refl _, fun _ _ _ => rfl⟩
theorem Fl.call {w0 w w' : World} {obj : Obj} {L : List (Nat × Nat)} {pd : Bool} {u : Value} (h : Fl w0 obj L pd u w) (hb : Below w.heap.size w w') : Fl w0 obj ((w.heap.size, w'.heap.size) :: L) pd u w' := by
  have hs := hb.size
  rcases h with ⟨h1, h2, h3⟩ | ⟨h1, b, h2, h3, h4, h5, h6⟩
  · refine .inl ⟨h1, by omega, fun q hq => ?_⟩
    rcases List.mem_cons.1 hq with rfl | hq
    · exact Nat.le_refl _
    · have := h3 q hq; omega
  · refine .inr ⟨h1, b, h2, h3, by omega, (hb.block b h4).trans h5, fun q hq => ?_⟩
    rcases List.mem_cons.1 hq with rfl | hq
    · exact .inl h4
    · exact h6 q hq

section
variable {P : Program} {ops : Array Oper} {md : Region.Mode} {Q : Exit → Act → World → Prop} {w0 : World} {j : Nat}

/-- some false: all else, some true: soft, none: the variable must be there now. -/
def wpOrdF (P : Program) (ops : Array Oper) (Q : Exit → Act → World → Prop) (w0 : World) (j : Nat) (T : Act → World → Prop) : List (Nat × Option Bool) → Bool → Act → World → Prop
  | [], pd, a, w => pd = false ∧ T a w
  | (i, some true) :: r, pd, a, w =>
    match ops[i]? with
    | none => False
    | some o => if Region.wanted o (yielded ops a.tmps) = true then softAt P w0 none o a (fun a' => wpOrdF P ops Q w0 j T r pd a' w) else wpOrdF P ops Q w0 j T r pd (a.put o.dst undef) w
  | (_, none) :: r, pd, a, w => (pd = true → wpOp P ops Q j (fun a' w' => w0.grownBy w' none ∧ wpOrdF P ops Q w0 j T r false a' w') a w) ∧ (pd = false → wpOrdF P ops Q w0 j T r false a w)
  | (i, some false) :: r, pd, a, w =>
    wpOp P ops Q i (fun a' w' => w0.grownBy w' none ∧ wpOrdF P ops Q w0 j T r pd a' w') a w ∧
    (pd = true → wpOp P ops Q j (fun a1 w1 => w0.grownBy w1 none ∧ wpOp P ops Q i (fun a' w' => w0.grownBy w' none ∧ wpOrdF P ops Q w0 j T r false a' w') a1 w1) a w)

def lenF : List (Nat × Option Bool) → Nat
  | [] => 0
  | (_, none) :: r => lenF r
  | (_, some _) :: r => lenF r + 1

/-- 'L': what has come up, without j. -/
def ordFB (md : Region.Mode) (ops : Array Oper) (j : Nat) : List (Nat × Option Bool) → Bool → Array Bool → Bool
  | [], fin, L => fin && (Region.ready md ops (L.setIfInBounds j true)).isEmpty
  | (i, some true) :: r, fin, L => (decide (i ≠ j)) && (Region.ready md ops (L.setIfInBounds j true)).contains i && Region.free md ops (L.setIfInBounds j true) i && (fin || ((Region.ready md ops L).contains i && Region.free md ops L i)) && ordFB md ops j r fin (L.setIfInBounds i true)
  | (_, none) :: r, fin, L => !fin && decide (Region.ready md ops L = [j]) && ordFB md ops j r true L
  | (i, some false) :: r, fin, L => (decide (i ≠ j)) && decide (Region.ready md ops (L.setIfInBounds j true) = [i]) && (fin || (!(Region.ready md ops L).isEmpty && (Region.ready md ops L).all fun k => k == i || k == j)) && ordFB md ops j r fin (L.setIfInBounds i true)

theorem wpAnyH_end {S : World → Prop} {listed : Array Bool} {a : Act} {w : World} (hr : Region.ready md ops listed = []) (h : Q .normal a w) : ∀ fuel, wpAnyH P md ops Q S fuel listed a w
  | 0 => ⟨hr, h⟩
  | fuel + 1 => ⟨fun _ => h, fun i hi => by rw [hr] at hi; cases hi⟩

def fcnt (pd : Bool) (n : Nat) : Nat := if pd = true then n + 1 else n
def flist (pd : Bool) (j : Nat) (L : Array Bool) : Array Bool := if pd = true then L else L.setIfInBounds j true

theorem wpOrdF_sound (hsel : Region.noSelect ops = true) (hQ : ∀ c a d v w, Q (.panic c) (Act.put a d v) w → Q (.panic c) a w) :
    ∀ (l : List (Nat × Option Bool)) (fin : Bool) (L : Array Bool) (pd : Bool) (a : Act) (w : World) (fuel : Nat), ordFB md ops j l fin L = true → (fin = true → pd = false) → fcnt pd (lenF l) ≤ fuel → w0.grownBy w none →
      wpOrdF P ops Q w0 j (Q .normal) l pd a w → wpAnyH P md ops Q (fun w => w0.grownBy w none) fuel (flist pd j L) a w := by
  intro l
  induction l with
  | nil =>
    intro fin L pd a w fuel hB hfin hn hg h
    simp only [ordFB, Bool.and_eq_true] at hB
    obtain ⟨rfl, h⟩ := h
    exact wpAnyH_end (by simpa [flist] using hB.2) h fuel
  | cons x r ih =>
    obtain ⟨i, m⟩ := x
    intro fin L pd a w fuel hB hfin hn hg h
    rcases m with _ | m
    · skip
      simp only [ordFB, Bool.and_eq_true, decide_eq_true_eq] at hB
      obtain ⟨⟨_, hr⟩, hB'⟩ := hB
      simp only [wpOrdF] at h
      cases pd with
      | false => exact ih true L false a w fuel hB' (fun _ => rfl) (by simpa [fcnt, lenF] using hn) hg (h.2 rfl)
      | true =>
        obtain ⟨f, rfl⟩ : ∃ f, fuel = f + 1 := by
          cases fuel with
          | zero => simp [fcnt, lenF] at hn
          | succ f => exact ⟨f, rfl⟩
        refine wpAnyH_all (show Region.ready md ops (flist true j L) = [j] from hr) (by simp) (fun k hk => ?_)
        obtain rfl : k = j := by simpa using hk
        exact wpOp_mono (fun a' w' h' => ⟨h'.1, ih true L false a' w' f hB' (fun _ => rfl) (by simp [fcnt, lenF] at hn ⊢; omega) h'.1 h'.2⟩) (h.1 rfl)
    cases m with
    | true =>
      simp only [ordFB, Bool.and_eq_true, Bool.or_eq_true, decide_eq_true_eq] at hB
      obtain ⟨⟨⟨⟨hij, hr⟩, hf⟩, hor⟩, hB'⟩ := hB
      have hr2 : (Region.ready md ops (flist pd j L)).contains i = true ∧ Region.free md ops (flist pd j L) i = true := by
        cases pd with
        | false => exact ⟨hr, hf⟩
        | true =>
          rcases hor with h1 | h1
          · have := hfin h1; cases this
          · exact h1
      have hset : (flist pd j L).setIfInBounds i true = flist pd j (L.setIfInBounds i true) := by
        cases pd with
        | false => exact Array.setIfInBounds_comm _ _ (fun e => hij e.symm)
        | true => rfl
      obtain ⟨f, rfl⟩ : ∃ f, fuel = f + 1 := by
        cases fuel with
        | zero => cases pd <;> simp [fcnt, lenF] at hn
        | succ f => exact ⟨f, rfl⟩
      have hn' : fcnt pd (lenF r) ≤ f := by cases pd <;> simp [fcnt, lenF] at hn ⊢ <;> omega
      simp only [wpOrdF] at h
      split at h
      · exact h.elim
      · rename_i o ho
        have go : ∀ v, YieldsIf P ops (fun w => w0.grownBy w none) o v a → wpOrdF P ops Q w0 j (Q .normal) r pd (a.put o.dst v) w → wpAnyH P md ops Q (fun w => w0.grownBy w none) (f + 1) (flist pd j L) a w := fun v hy h2 =>
          wpAnyH_take ho hsel hr2.2 hr2.1 (fun c a w => hQ c a _ _ w) hy hg (by rw [hset]; exact ih fin _ pd _ w f hB' hfin hn' hg h2)
        split at h
        · rename_i hw
          obtain ⟨v, h1, h2⟩ := h
          refine go v (.inl ⟨hw, fun w' hw' => ?_⟩) h2
          obtain ⟨x, rfl⟩ := ext_of_grown hw'
          exact h1 x
        · rename_i hw
          exact go undef (.inr ⟨by simpa using hw, rfl⟩) h
    | false =>
      simp only [ordFB, Bool.and_eq_true, Bool.or_eq_true, decide_eq_true_eq] at hB
      obtain ⟨⟨⟨hij, hr⟩, hor⟩, hB'⟩ := hB
      have hc : (L.setIfInBounds j true).setIfInBounds i true = (L.setIfInBounds i true).setIfInBounds j true := Array.setIfInBounds_comm _ _ (fun e => hij e.symm)
      simp only [wpOrdF] at h
      cases pd with
      | false =>
        obtain ⟨f, rfl⟩ : ∃ f, fuel = f + 1 := by
          cases fuel with
          | zero => simp [fcnt, lenF] at hn
          | succ f => exact ⟨f, rfl⟩
        refine wpAnyH_all (show Region.ready md ops (flist false j L) = [i] from hr) (by simp) (fun k hk => ?_)
        obtain rfl : k = i := by simpa using hk
        refine wpOp_mono (fun a' w' h' => ⟨h'.1, ?_⟩) h.1
        have := ih fin (L.setIfInBounds k true) false a' w' f hB' hfin (by simp [fcnt, lenF] at hn ⊢; omega) h'.1 h'.2
        simpa [flist, hc] using this
      | true =>
        have hall : ¬ Region.ready md ops L = [] ∧ ∀ k ∈ Region.ready md ops L, k = i ∨ k = j := by
          rcases hor with h1 | h1
          · have := hfin h1; cases this
          · exact ⟨by simpa using h1.1, fun k hk => by simpa using List.all_eq_true.1 h1.2 k hk⟩
        obtain ⟨f, rfl⟩ : ∃ f, fuel = f + 1 + 1 := by
          match fuel, hn with
          | 0, hn => simp [fcnt, lenF] at hn
          | 1, hn => simp [fcnt, lenF] at hn
          | f + 2, _ => exact ⟨f, rfl⟩
        have h1 := h.2 rfl
        refine ⟨fun h0 => (hall.1 h0).elim, fun k hk => ?_⟩
        rcases hall.2 k hk with rfl | rfl
        · exact wpOp_mono (fun a' w' h' => ⟨h'.1, ih fin (L.setIfInBounds k true) true a' w' (f + 1) hB' hfin (by simp [fcnt, lenF] at hn ⊢; omega) h'.1 h'.2⟩) h.1
        · refine wpOp_mono (fun a1 w1 h' => ⟨h'.1, ?_⟩) h1
          refine wpAnyH_all (rs := [i]) hr (by simp) (fun q hq => ?_)
          obtain rfl : q = i := by simpa using hq
          refine wpOp_mono (fun a' w' h'' => ⟨h''.1, ?_⟩) h'.2
          have := ih fin (L.setIfInBounds q true) false a' w' f hB' (fun _ => rfl) (by simp [fcnt, lenF] at hn ⊢; omega) h''.1 h''.2
          simpa [flist, hc] using this

/-- A region in the order 'ord', where number j makes a variable at no fixed time. -/
theorem wp_region_float {id : Nat} {a : Act} {w : World} {l : List Oper} (j : Nat) (ord : List (Nat × Option Bool)) (hm : P.follows .mixedOrders = true)
    (hB : (Region.noSelect l.toArray && decide (lenF ord + 1 = l.length) && ordFB .any l.toArray j ord false (Array.replicate l.length false)) = true)
    (h : wpOrdF P l.toArray (NoPanic Q) w j (NoPanic Q .normal) ord true a w.drew) : (Code.region id l.toArray true).wp P Q a w := by
  simp only [Bool.and_eq_true, decide_eq_true_eq] at hB
  obtain ⟨⟨h1, h2⟩, h3⟩ := hB
  refine wp_region_noPanic (wp_region_any hm ?_)
  have := wpOrdF_sound (md := .any) (w0 := w) h1 (fun c a d v w h => (h : False).elim) ord false _ true a w.drew l.length h3 (fun h => by cases h) (by simp [fcnt]; omega) (grown_draw w) h
  exact wpAny_of_held _ _ _ _ (by simpa [flist] using this)

theorem wpOrdF_nil {T : Act → World → Prop} {a : Act} {w : World} (h : T a w) : wpOrdF P ops Q w0 j T [] false a w := ⟨rfl, h⟩
theorem wpOrdF_soft {T : Act → World → Prop} {i : Nat} {pd : Bool} {r : List (Nat × Option Bool)} {a : Act} {w : World}
    (h : ∀ K : Act → Prop, (∀ a, wpOrdF P ops Q w0 j T r pd a w → K a) → match ops[i]? with | none => False | some o => if Region.wanted o (yielded ops a.tmps) = true then softAt P w0 none o a K else K (a.put o.dst undef)) : wpOrdF P ops Q w0 j T ((i, some true) :: r) pd a w :=
  h _ fun _ h => h

theorem put_self {a : Act} {d : Nat} (hd : d < a.tmps.size) : a.put (some d) (a.tmps.getD d undef) = a := by
  cases a with
  | mk tmps defers =>
    have hd' : d < tmps.size := hd
    show Act.mk (tmps.setIfInBounds d (tmps.getD d undef)) defers = Act.mk tmps defers
    congr 1
    apply Array.ext_getElem?
    intro i
    rw [Array.getElem?_setIfInBounds]
    split
    · rename_i e; subst e; simp [Array.getD, hd']
    · rfl

/-- A step that is taken whether the variable is there or not. -/
theorem wpOrdF_hard {T : Act → World → Prop} {i d : Nat} {pd : Bool} {obj : Obj} {L : List (Nat × Nat)} {r : List (Nat × Option Bool)} {a : Act} {w : World}
    (hal : ∀ (K : Act → World → Prop) (a : Act) (w : World), K (a.put (some d) (.pointer (some ⟨w.heap.size, 0, none⟩))) (w.alloc obj) → wpOp P ops Q j K a w)
    (hd : d < a.tmps.size) (hg : w0.grownBy w none) (hf : Fl w0 obj L pd (a.tmps.getD d undef) w)
    (h : ∀ pd' u w', Below w.heap.size w w' → w0.grownBy w' none → Fl w0 obj L pd' u w' → match ops[i]? with | none => False | some o => wpList P ops (only Q fun a' w'' => w0.grownBy w'' none ∧ wpOrdF P ops Q w0 j T r pd' a' w'') [o] (a.put (some d) u) w') : wpOrdF P ops Q w0 j T ((i, some false) :: r) pd a w := by
  simp only [wpOrdF]
  refine ⟨?_, fun hp => hal _ _ _ ?_⟩
  · have := h pd _ w (Below.refl _ _) hg hf
    rw [put_self hd] at this
    exact wpOp_only this
  · subst hp
    have hg' : w0.grownBy (w.alloc obj) none := grown_trans hg (World.grownBy_alloc _ _ _)
    refine ⟨hg', wpOp_only (h false _ _ ((Below.refl _ _).alloc (Nat.le_refl _) _) hg' ?_)⟩
    rcases hf with ⟨_, h1, h2⟩ | ⟨h1, _⟩
    · refine .inr ⟨rfl, w.heap.size, rfl, h1, by simp, heap_alloc_new w _, fun q hq => .inr (h2 q hq)⟩
    · cases h1
theorem wpOrdF_settle {T : Act → World → Prop} {i d : Nat} {pd : Bool} {obj : Obj} {L : List (Nat × Nat)} {r : List (Nat × Option Bool)} {a : Act} {w : World}
    (hal : ∀ (K : Act → World → Prop) (a : Act) (w : World), K (a.put (some d) (.pointer (some ⟨w.heap.size, 0, none⟩))) (w.alloc obj) → wpOp P ops Q j K a w)
    (hd : d < a.tmps.size) (hg : w0.grownBy w none) (hf : Fl w0 obj L pd (a.tmps.getD d undef) w)
    (h : ∀ b w', Below w.heap.size w w' → w0.grownBy w' none → w0.heap.size ≤ b → b < w'.heap.size → w'.heap[b]? = some obj → (∀ q ∈ L, b < q.1 ∨ q.2 ≤ b) → wpOrdF P ops Q w0 j T r false (a.put (some d) (.pointer (some ⟨b, 0, none⟩))) w') : wpOrdF P ops Q w0 j T ((i, none) :: r) pd a w := by
  simp only [wpOrdF]
  refine ⟨fun hp => hal _ _ _ ?_, fun hp => ?_⟩
  · subst hp
    have hg' : w0.grownBy (w.alloc obj) none := grown_trans hg (World.grownBy_alloc _ _ _)
    rcases hf with ⟨_, h1, h2⟩ | ⟨h1, _⟩
    · exact ⟨hg', h w.heap.size _ ((Below.refl _ _).alloc (Nat.le_refl _) _) hg' h1 (by simp) (heap_alloc_new w _) (fun q hq => .inr (h2 q hq))⟩
    · cases h1
  · subst hp
    rcases hf with ⟨h1, _⟩ | ⟨_, b, h1, h2, h3, h4, h5⟩
    · cases h1
    · have := h b w (Below.refl _ _) hg h2 h3 h4 h5
      rw [← h1, put_self hd] at this
      exact this
theorem wpOrdF_last {T : Act → World → Prop} {i : Nat} {r : List (Nat × Option Bool)} {a : Act} {w : World}
    (h : match ops[i]? with | none => False | some o => wpList P ops (only Q fun a' w'' => w0.grownBy w'' none ∧ wpOrdF P ops Q w0 j T r false a' w'') [o] a w) : wpOrdF P ops Q w0 j T ((i, some false) :: r) false a w :=
  ⟨wpOp_only h, fun h => by cases h⟩
theorem grown_setNew {a w : World} (h : a.grownBy w none) {p : Addr} (hp : a.heap.size ≤ p.block) (u : Value) : a.grownBy (w.setCell p u) none :=
  ⟨h.os, h.tape, h.output, by have := h.size; simpa [World.setCell] using this, fun k hk hne => (Below.heap_setCell _ _ _ _ (by omega)).trans (h.block k hk hne)⟩
/-- A cell of a block that is as it was made. -/
theorem cell_fresh {w : World} {b o : Nat} {cs : Array Value} {e : TypeId} {u : Value} (h : w.heap[b]? = some (.cells cs e)) (hu : cs[o]? = some u) : w.cell? ⟨b, o, none⟩ = some u := by
  rw [cell_of_row w b o cs e (0, 0) h]; exact hu
theorem frozen_fresh {w : World} {b o : Nat} {cs : Array Value} {e : TypeId} (h : w.heap[b]? = some (.cells cs e)) : w.frozen? ⟨b, o, none⟩ = false := by
  unfold World.frozen?
  rw [h]
  rfl

end
end Go.Proofs.Ytemmnjokojgjaaa
/- Contracts of IndexFunc and ContainsFunc at tones, of tooSoon, fastRepeats, l26Fast and FastRepeats of both packages. -/
set_option linter.unusedSimpArgs false
set_option linter.unnecessarySimpa false
set_option linter.unusedVariables false
set_option maxRecDepth 100000
namespace Go.Proofs.Ytemmnjokojgjaaa
open Go.RowKit

/-- r is the first index with a property, or -1. -/
def Idx (P : Ton → Bool) (ts : List Ton) (r : Int) : Prop :=
  (r = -1 ∧ ∀ j (hj : j < ts.length), P ts[j] = false) ∨ ∃ (k : Nat) (hk : k < ts.length), r = (k : Int) ∧ P ts[k] = true ∧ ∀ j (hj : j < ts.length), j < k → P ts[j] = false
theorem Idx.any {P : Ton → Bool} {ts : List Ton} {r : Int} (h : Idx P ts r) : decide (0 ≤ r) = ts.any P := by
  rcases h with ⟨rfl, h⟩ | ⟨k, hk, rfl, h1, _⟩
  · have : ts.any P = false := by
      rw [List.any_eq_false]
      intro x hx
      obtain ⟨j, hj, rfl⟩ := List.getElem_of_mem hx
      rw [h j hj]; exact Bool.false_ne_true
    rw [this]; rfl
  · have : ts.any P = true := List.any_eq_true.2 ⟨_, List.getElem_mem hk, h1⟩
    rw [this]; simp

set_option maxHeartbeats 1000000 in
theorem idxF1_any (N : Nat) (p : Value) (P : Ton → Bool) (v : Value) (ts : List Ton) (w : World) (h : Tons w v ts)
    (hN : ∀ args w, Sem.run Try.prog (callFunc N args) w = .ok (.enter N args) w)
    (hF : ∀ k (hk : k < ts.length) (w1 : World), Below w.heap.size w w1 → Calls Try.prog N #[.agg #[.int .i64 ts[k].note, .int .i64 ts[k].start, .int .i64 ts[k].len], p] w1 fun e w2 => e = .returned (.bool (P ts[k])) ∧ Below w1.heap.size w1 w2) :
    Calls Try.prog 78 #[v, .func (.func N) #[] #[p]] w fun e w' => ∃ r : Int, e = .returned (.int .i64 r) ∧ Idx P ts r ∧ Below w.heap.size w w' := by
  obtain ⟨a, ca, rfl, hca, hcm, _⟩ := id h
  have hm : ts.length ≤ maxLen := by omega
  clear hca hcm
  unfold maxLen at hm
  have HF := Lib.hid hF; clear hF
  go_enter Try.func78, Try.ntmps78
  go_wp2_with fail
  go_loopw [8, 5] (fun i _ wr => ∃ k : Nat, k ≤ ts.length ∧ i = .int .i64 (k : Int) ∧ (∀ j (hj : j < ts.length), j < k → P ts[j] = false) ∧ Below w.heap.size w wr) (fun i _ _ => ts.length - (intOf i).toNat)
  case atStart => exact ⟨0, Nat.zero_le _, by go_num, by intro j hj h; omega, Below.refl _ _⟩
  case round =>
    obtain ⟨k, hk, rfl, ht, hb⟩ := hrel
    have HT := Lib.hid ht; clear ht
    by_cases hlt : k < ts.length
    · obtain ⟨b1, o1, rfl, hB1, d0, d1, d2⟩ := (h.mono hb).at hlt
      have hz := hb.size
      by_cases g : P ts[k] = true
      · have G := Lib.hid g; clear g
        go_wp2_with fail
        refine (HF.out k hlt _ hb).mono ?_
        rw [G.out]
        rintro e w1 ⟨rfl, hb1⟩
        go_wp2
        go_ret
        exact ⟨k, rfl, .inr ⟨k, hlt, rfl, G.out, HT.out⟩, hb.trans (hb1.mono hz)⟩
      · have G := Lib.hid (show P ts[k] = false by simpa using g); clear g
        go_wp2_with fail
        refine (HF.out k hlt _ hb).mono ?_
        rw [G.out]
        rintro e w1 ⟨rfl, hb1⟩
        go_wp2
        go_roundw
        case rel =>
          refine ⟨k + 1, by omega, by go_num, fun j hj hjk => ?_, hb.trans (hb1.mono hz)⟩
          rcases Nat.lt_or_eq_of_le (Nat.le_of_lt_succ hjk) with h1 | h1
          · exact HT.out j hj h1
          · subst h1; exact G.out
        case measure => simp [intOf] <;> omega
    · go_wp2
      go_ret
      exact ⟨-1, rfl, .inl ⟨rfl, fun j hj => HT.out j hj (by omega)⟩, hb⟩

set_option maxHeartbeats 1000000 in
theorem idxF2_any (N : Nat) (p q : Value) (P : Ton → Bool) (v : Value) (ts : List Ton) (w : World) (h : Tons w v ts)
    (hN : ∀ args w, Sem.run Try.prog (callFunc N args) w = .ok (.enter N args) w)
    (hF : ∀ k (hk : k < ts.length) (w1 : World), Below w.heap.size w w1 → Calls Try.prog N #[.agg #[.int .i64 ts[k].note, .int .i64 ts[k].start, .int .i64 ts[k].len], p, q] w1 fun e w2 => e = .returned (.bool (P ts[k])) ∧ Below w1.heap.size w1 w2) :
    Calls Try.prog 78 #[v, .func (.func N) #[] #[p, q]] w fun e w' => ∃ r : Int, e = .returned (.int .i64 r) ∧ Idx P ts r ∧ Below w.heap.size w w' := by
  obtain ⟨a, ca, rfl, hca, hcm, _⟩ := id h
  have hm : ts.length ≤ maxLen := by omega
  clear hca hcm
  unfold maxLen at hm
  have HF := Lib.hid hF; clear hF
  go_enter Try.func78, Try.ntmps78
  go_wp2_with fail
  go_loopw [8, 5] (fun i _ wr => ∃ k : Nat, k ≤ ts.length ∧ i = .int .i64 (k : Int) ∧ (∀ j (hj : j < ts.length), j < k → P ts[j] = false) ∧ Below w.heap.size w wr) (fun i _ _ => ts.length - (intOf i).toNat)
  case atStart => exact ⟨0, Nat.zero_le _, by go_num, by intro j hj h; omega, Below.refl _ _⟩
  case round =>
    obtain ⟨k, hk, rfl, ht, hb⟩ := hrel
    have HT := Lib.hid ht; clear ht
    by_cases hlt : k < ts.length
    · obtain ⟨b1, o1, rfl, hB1, d0, d1, d2⟩ := (h.mono hb).at hlt
      have hz := hb.size
      by_cases g : P ts[k] = true
      · have G := Lib.hid g; clear g
        go_wp2_with fail
        refine (HF.out k hlt _ hb).mono ?_
        rw [G.out]
        rintro e w1 ⟨rfl, hb1⟩
        go_wp2
        go_ret
        exact ⟨k, rfl, .inr ⟨k, hlt, rfl, G.out, HT.out⟩, hb.trans (hb1.mono hz)⟩
      · have G := Lib.hid (show P ts[k] = false by simpa using g); clear g
        go_wp2_with fail
        refine (HF.out k hlt _ hb).mono ?_
        rw [G.out]
        rintro e w1 ⟨rfl, hb1⟩
        go_wp2
        go_roundw
        case rel =>
          refine ⟨k + 1, by omega, by go_num, fun j hj hjk => ?_, hb.trans (hb1.mono hz)⟩
          rcases Nat.lt_or_eq_of_le (Nat.le_of_lt_succ hjk) with h1 | h1
          · exact HT.out j hj h1
          · subst h1; exact G.out
        case measure => simp [intOf] <;> omega
    · go_wp2
      go_ret
      exact ⟨-1, rfl, .inl ⟨rfl, fun j hj => HT.out j hj (by omega)⟩, hb⟩

set_option maxHeartbeats 400000 in
theorem anyF2_any (N : Nat) (p q : Value) (P : Ton → Bool) (v : Value) (ts : List Ton) (w : World) (h : Tons w v ts)
    (hN : ∀ args w, Sem.run Try.prog (callFunc N args) w = .ok (.enter N args) w)
    (hF : ∀ k (hk : k < ts.length) (w1 : World), Below w.heap.size w w1 → Calls Try.prog N #[.agg #[.int .i64 ts[k].note, .int .i64 ts[k].start, .int .i64 ts[k].len], p, q] w1 fun e w2 => e = .returned (.bool (P ts[k])) ∧ Below w1.heap.size w1 w2) :
    Calls Try.prog 97 #[v, .func (.func N) #[] #[p, q]] w fun e w' => e = .returned (.bool (ts.any P)) ∧ Below w.heap.size w w' := by
  go_enter Try.func97, Try.ntmps97
  go_wp2_with fail
  refine (idxF2_any N p q P v ts _ h hN hF).mono ?_
  rintro e w1 ⟨r, rfl, hr, hb⟩
  have HX := Lib.hid hr.any
  clear hr
  go_wp2
  go_ret
  exact ⟨ret_bool HX.out, hb⟩

/-- y has the note of x and begins less than some ticks before it. -/
def soon (x : Ton) (rest : Int) (y : Ton) : Bool := decide (y.note = x.note) && decide (x.start - y.start < rest)
theorem enters_soon (args : Array Value) (w : World) : Sem.run Try.prog (callFunc 98 args) w = .ok (.enter 98 args) w := by
  first | rfl | (simp [callFunc, go_sem]; done) | (go_simp; done)
def tonBd (x : Ton) : Prop := 0 ≤ x.start ∧ x.start ≤ 1000000

set_option maxHeartbeats 1000000 in
theorem soon1_any (x y : Ton) (c1 c2 : Nat) (rest : Int) (w : World) (h0 : w.cell? ⟨c1, 0, none⟩ = some (.int .i64 x.note)) (h1 : w.cell? ⟨c1, 1, none⟩ = some (.int .i64 x.start)) (h2 : w.cell? ⟨c2, 0, none⟩ = some (.int .i64 rest)) (hx : tonBd x) (hy : tonBd y) :
    Calls Try.prog 98 #[.agg #[.int .i64 y.note, .int .i64 y.start, .int .i64 y.len], .pointer (some ⟨c1, 0, none⟩), .pointer (some ⟨c2, 0, none⟩)] w fun e w' => e = .returned (.bool (soon x rest y)) ∧ Below w.heap.size w w' := by
  have hl1 := World.block_lt_of_cell? w _ h0
  have hl2 := World.block_lt_of_cell? w _ h2
  simp only at hl1 hl2
  have l1 : c1 < w.heap.size + 1 := by omega
  have l2 : c2 < w.heap.size + 1 := by omega
  unfold tonBd at hx hy
  have q1 : IntKind.i64.wrap (x.start - y.start) = x.start - y.start := IntWalk.i64_in _ (by omega)
  clear hx hy
  by_cases g1 : y.note = x.note
  · have d1 : (y.note == x.note) = true := by simpa using g1
    have E := Lib.hid (show decide (x.start - y.start < rest) = soon x rest y by unfold soon; simp [g1])
    clear g1
    go_enter Try.func98, Try.ntmps98
    go_wp2
    go_ret
    refine ⟨ret_bool E.out, ?_⟩
    (repeat (first | with_reducible exact Below.refl _ _ | with_reducible exact hbw | (with_reducible refine Below.setCell ?_ ?_ _; rotate_left; · first | exact Nat.le_refl _ | omega | (simp; done) | (simp; omega)) | (with_reducible refine Below.alloc ?_ ?_ _; rotate_left; · first | exact Nat.le_refl _ | omega | (simp; done) | (simp; omega)) | with_reducible refine below_drewN ?_ _ | with_reducible refine Below.drew ?_))
  · have d1 : (y.note == x.note) = false := by simpa using g1
    have E := Lib.hid (show false = soon x rest y by unfold soon; simp [g1])
    clear g1
    go_enter Try.func98, Try.ntmps98
    go_wp2
    go_ret
    refine ⟨ret_bool E.out, ?_⟩
    (repeat (first | with_reducible exact Below.refl _ _ | with_reducible exact hbw | (with_reducible refine Below.setCell ?_ ?_ _; rotate_left; · first | exact Nat.le_refl _ | omega | (simp; done) | (simp; omega)) | (with_reducible refine Below.alloc ?_ ?_ _; rotate_left; · first | exact Nat.le_refl _ | omega | (simp; done) | (simp; omega)) | with_reducible refine below_drewN ?_ _ | with_reducible refine Below.drew ?_))

set_option maxHeartbeats 1000000 in
theorem tooSoon_any (v : Value) (ts : List Ton) (x : Ton) (rest : Int) (w : World) (h : Tons w v ts) (hx : tonBd x) (ht : ∀ y ∈ ts, tonBd y) :
    Calls Try.prog 69 #[v, .agg #[.int .i64 x.note, .int .i64 x.start, .int .i64 x.len], .int .i64 rest] w fun e w' => e = .returned (.bool (ts.any (soon x rest))) ∧ Below w.heap.size w w' := by
  obtain ⟨a, ca, rfl, _⟩ := id h
  have HX := Lib.hid hx; have HT := Lib.hid ht; clear hx ht
  go_enter Try.func69, Try.ntmps69
  go_wp2_with fail
  refine (anyF2_any 98 (.pointer (some ⟨w.heap.size, 0, none⟩)) (.pointer (some ⟨w.heap.size + 1, 0, none⟩)) (soon x rest) _ ts _ (h.mono (by (repeat (first | with_reducible exact Below.refl _ _ | with_reducible exact hbw | (with_reducible refine Below.setCell ?_ ?_ _; rotate_left; · first | exact Nat.le_refl _ | omega | (simp; done) | (simp; omega)) | (with_reducible refine Below.alloc ?_ ?_ _; rotate_left; · first | exact Nat.le_refl _ | omega | (simp; done) | (simp; omega)) | with_reducible refine below_drewN ?_ _ | with_reducible refine Below.drew ?_)))) enters_soon (fun k hk w1 hb1 => soon1_any x ts[k] _ _ rest w1 (cellB hb1 (by simp [go_sem])) (cellB hb1 (by simp [go_sem])) (cellB hb1 (by simp [go_sem])) HX.out (HT.out _ (List.getElem_mem hk)))).mono ?_
  rintro e w1 ⟨rfl, hb⟩
  have hbw : Below w.heap.size w w1 := Below.trans (by (repeat (first | with_reducible exact Below.refl _ _ | with_reducible exact hbw | (with_reducible refine Below.setCell ?_ ?_ _; rotate_left; · first | exact Nat.le_refl _ | omega | (simp; done) | (simp; omega)) | (with_reducible refine Below.alloc ?_ ?_ _; rotate_left; · first | exact Nat.le_refl _ | omega | (simp; done) | (simp; omega)) | with_reducible refine below_drewN ?_ _ | with_reducible refine Below.drew ?_))) (hb.mono (by simp <;> omega))
  go_wp2
  go_ret
  exact ⟨rfl, hbw⟩

/-- The indices of fast tones below k. -/
def fastAt (ts : List Ton) (rest : Int) (k : Nat) : Bool := match ts[k]? with
  | some x => (ts.take k).any (soon x rest)
  | none => false
def fastL (ts : List Ton) (rest : Int) : Nat → List Int
  | 0 => []
  | k + 1 => if fastAt ts rest k = true then fastL ts rest k ++ [(k : Int)] else fastL ts rest k
theorem fastAt_eq {ts : List Ton} {rest : Int} {k : Nat} (h : k < ts.length) : fastAt ts rest k = (ts.take k).any (soon ts[k] rest) := by
  unfold fastAt; rw [List.getElem?_eq_getElem h]
theorem fastL_yes {ts : List Ton} {rest : Int} {k : Nat} (h : fastAt ts rest k = true) : fastL ts rest (k + 1) = fastL ts rest k ++ [(k : Int)] := if_pos h
theorem fastL_no {ts : List Ton} {rest : Int} {k : Nat} (h : fastAt ts rest k = false) : fastL ts rest (k + 1) = fastL ts rest k := if_neg (by rw [h]; exact Bool.false_ne_true)
theorem fastL_len (ts : List Ton) (rest : Int) : ∀ k, (fastL ts rest k).length ≤ k
  | 0 => Nat.le_refl _
  | k + 1 => by
    have := fastL_len ts rest k
    unfold fastL; split
    · simp; omega
    · omega
theorem tun_bd {x : TunD} (h : validTunB x = true) : ∀ y ∈ x.tones, tonBd y := by
  intro y hy
  obtain ⟨k, hk, rfl⟩ := List.getElem_of_mem hy
  have := (tun_tone h hk).fits
  unfold tonBd; omega

theorem tons_take' {w : World} {a : Option Addr} {ca : Nat} {xs : List Ton} (h : Tons w (.slice a xs.length ca) xs) {k : Nat} (hk : k ≤ xs.length) : Tons w (.slice a k ca) (xs.take k) := by
  obtain ⟨a', c', e, h1, h2, h3⟩ := h
  simp only [Value.slice.injEq] at e
  obtain ⟨rfl, _, rfl⟩ := e
  have hl : (xs.take k).length = k := by rw [List.length_take, Nat.min_eq_left hk]
  refine ⟨_, _, by rw [hl], by rw [hl]; omega, h2, fun j u hu => h3 j u ?_⟩
  have e2 : xs.flatMap Ton.cells = (xs.take k).flatMap Ton.cells ++ (xs.drop k).flatMap Ton.cells := by rw [← List.flatMap_append, List.take_append_drop]
  have hj := (List.getElem?_eq_some_iff.1 hu).1
  rw [e2, List.getElem?_append_left hj]; exact hu
theorem undrewA {w w' : World} {o : Obj} (h : Below (w.alloc o).drew.heap.size (w.alloc o).drew w') : Below w.heap.size (w.alloc o) w' := ⟨h.os, h.tape, h.output, h.size, fun k hk => h.block k (by simp; omega)⟩

set_option maxHeartbeats 2000000 in
theorem fastRepeats_any (vt lv : Value) (x : TunD) (rest : Int) (w : World) (h : Tun w vt lv x) (ok : validTunB x = true) :
    Calls Try.prog 70 #[vt, .int .i64 rest] w fun e w' => ∃ v', e = .returned v' ∧ OwnInts w.heap.size w'.heap.size w' v' (fastL x.tones rest x.tones.length) ∧ Below w.heap.size w w' := by
  obtain ⟨rfl, hlv⟩ := h
  obtain ⟨a, ca, rfl, hca, hcm, _⟩ := id hlv
  have hl := tun_len ok
  have OK := Lib.hid ok; have BD := Lib.hid (tun_bd ok); clear ok
  go_enter Try.func70, Try.ntmps70
  go_wp2_with fail
  go_loopw [5, 11, 6, 7] (fun o i _ _ wr => ∃ (k n : Nat) (a' : Option Addr) (c' : Nat), k ≤ x.tones.length ∧ i = .int .i64 (k : Int) ∧ n = (fastL x.tones rest k).length ∧ o = .slice a' n c' ∧ wr.ownsRow (w.heap.size + 1) 2 1 (.slice a' n c') n ((fastL x.tones rest k).map (Value.int .i64)) ∧ Below w.heap.size w wr ∧ w.heap.size + 1 ≤ wr.heap.size ∧ wr.cell? ⟨w.heap.size, 1, none⟩ = some (.slice a x.tones.length ca)) (fun _ i _ _ _ => x.tones.length - (intOf i).toNat)
  case atStart => exact ⟨0, 0, none, 0, Nat.zero_le _, by go_num, rfl, rfl, by simpa [fastL] using owns_nil _ _ _ _, by (repeat (first | with_reducible exact Below.refl _ _ | with_reducible exact hbw | (with_reducible refine Below.setCell ?_ ?_ _; rotate_left; · first | exact Nat.le_refl _ | omega | (simp; done) | (simp; omega)) | (with_reducible refine Below.alloc ?_ ?_ _; rotate_left; · first | exact Nat.le_refl _ | omega | (simp; done) | (simp; omega)) | with_reducible refine below_drewN ?_ _ | with_reducible refine Below.drew ?_)), by simp, by simp [go_sem]⟩
  case round =>
    obtain ⟨k, n, a', c', hk, rfl, hn, rfl, ho, hb, hz, y1⟩ := hrel
    have HO := Lib.hid ho; have HN := Lib.hid hn; clear ho
    have fl := fastL_len x.tones rest k
    rw [← hn] at fl
    clear hn
    by_cases hlt : k < x.tones.length
    · obtain ⟨b1, o1, rfl, hB1, d0, d1, d2⟩ := (hlv.mono hb).at hlt
      have l1 : b1 < wr.heap.size + 1 := by omega
      have hT := tons_take' (hlv.mono hb) hk
      have kc : (k : Int) ≤ (ca : Int) := by omega
      have kn : k ≤ ca := by omega
      have k0 : (0 : Int) ≤ (k : Int) := by omega
      have kz : ((k : Int)).toNat = k := by omega
      have hw0 : w.heap.size < wr.heap.size := by omega
      have hw1 : w.heap.size < wr.heap.size + 1 := by omega
      have HT := Lib.hid hT; have HB := Lib.hid hb
      clear hT hb
      by_cases g : fastAt x.tones rest k = true
      · have F := Lib.hid (fastL_yes g)
        have G := Lib.hid (show (x.tones.take k).any (soon x.tones[k] rest) = true by rw [← fastAt_eq hlt]; exact g)
        clear g
        go_wp2_with fail
        refine wp_region_ordG [(0, 1), (1, 1), (2, 1), (3, 1), (4, 1), (5, 1), (6, 0)] [6] (none) (by kernel_rfl) (by kernel_rfl) ?_
        (repeat ((first | with_reducible refine wpOrdG_soft (fun K hK => ?_) | with_reducible refine wpOrdG_pre (fun K hK => ?_)); simp only [List.getElem?_toArray, List.getElem?_cons_zero, List.getElem?_cons_succ]; first | (go_simp; refine hK _ ?_) | (simp only [undef]; go_simp; refine hK _ ?_); clear hK K))
        (with_reducible refine wpOrdG_hard ?_; simp only [List.getElem?_toArray, List.getElem?_cons_zero, List.getElem?_cons_succ])
        go_wp2_with fail
        refine (tooSoon_any _ (x.tones.take k) x.tones[k] rest _ (HT.out.mono (by (repeat (first | with_reducible exact Below.refl _ _ | with_reducible exact hbw | (with_reducible refine Below.setCell ?_ ?_ _; rotate_left; · first | exact Nat.le_refl _ | omega | (simp; done) | (simp; omega)) | (with_reducible refine Below.alloc ?_ ?_ _; rotate_left; · first | exact Nat.le_refl _ | omega | (simp; done) | (simp; omega)) | with_reducible refine below_drewN ?_ _ | with_reducible refine Below.drew ?_)))) (BD.out _ (List.getElem_mem hlt)) (fun y hy => BD.out y (List.mem_of_mem_take hy))).mono ?_
        rw [G.out]
        rintro e w1 ⟨rfl, hb1⟩
        have hst : Below wr.heap.size wr w1 := Below.trans (by (repeat (first | with_reducible exact Below.refl _ _ | with_reducible exact hbw | (with_reducible refine Below.setCell ?_ ?_ _; rotate_left; · first | exact Nat.le_refl _ | omega | (simp; done) | (simp; omega)) | (with_reducible refine Below.alloc ?_ ?_ _; rotate_left; · first | exact Nat.le_refl _ | omega | (simp; done) | (simp; omega)) | with_reducible refine below_drewN ?_ _ | with_reducible refine Below.drew ?_))) (undrewA hb1)
        have hz1 := hst.size
        go_wp2_with fail
        refine And.intro (grown_of_below hb1) ?_
        (with_reducible refine wpOrdG_nil ?_); refine NoPanic.normal ?_
        have y1 := cellB hst y1
        have HO1 := Lib.hid (owns_mono HO.out hst); have HB1 := Lib.hid (HB.out.trans (hst.mono (by omega)))
        clear hst hb1
        go_wp2_with (at_builtin; refine append_one rfl _ _ 25 rfl (w.heap.size + 1) 2 (.int .i64 0) 1 8 Try.underlying25 info_int rfl (by decide) _ n _ rfl HO1.out [.int .i64 (k : Int)] rfl (by simp [Value.oneCell']) rfl (by omega) (by decide) (by omega) ?_)
        intro a5 c5 w5 ho5 _ hb5
        have y1 := cellL hb5 (by simp) y1
        have hz5 := hb5.size
        have HO5 := Lib.hid ho5; have HB5 := Lib.hid (HB1.out.trans (hb5.mono (by omega)))
        clear ho5 hb5
        go_wp2
        go_roundw
        case rel => exact ⟨k + 1, n + 1, a5, c5, by omega, by go_num, by rw [F.out, HN.out]; simp, rfl, by rw [F.out, List.map_append]; exact HO5.out, HB5.out, by omega, y1⟩
        case measure => simp [intOf] <;> omega
      · have g' : fastAt x.tones rest k = false := by simpa using g
        have F := Lib.hid (fastL_no g')
        have G := Lib.hid (show (x.tones.take k).any (soon x.tones[k] rest) = false by rw [← fastAt_eq hlt]; exact g')
        clear g g'
        go_wp2_with fail
        refine wp_region_ordG [(0, 1), (1, 1), (2, 1), (3, 1), (4, 1), (5, 1), (6, 0)] [6] (none) (by kernel_rfl) (by kernel_rfl) ?_
        (repeat ((first | with_reducible refine wpOrdG_soft (fun K hK => ?_) | with_reducible refine wpOrdG_pre (fun K hK => ?_)); simp only [List.getElem?_toArray, List.getElem?_cons_zero, List.getElem?_cons_succ]; first | (go_simp; refine hK _ ?_) | (simp only [undef]; go_simp; refine hK _ ?_); clear hK K))
        (with_reducible refine wpOrdG_hard ?_; simp only [List.getElem?_toArray, List.getElem?_cons_zero, List.getElem?_cons_succ])
        go_wp2_with fail
        refine (tooSoon_any _ (x.tones.take k) x.tones[k] rest _ (HT.out.mono (by (repeat (first | with_reducible exact Below.refl _ _ | with_reducible exact hbw | (with_reducible refine Below.setCell ?_ ?_ _; rotate_left; · first | exact Nat.le_refl _ | omega | (simp; done) | (simp; omega)) | (with_reducible refine Below.alloc ?_ ?_ _; rotate_left; · first | exact Nat.le_refl _ | omega | (simp; done) | (simp; omega)) | with_reducible refine below_drewN ?_ _ | with_reducible refine Below.drew ?_)))) (BD.out _ (List.getElem_mem hlt)) (fun y hy => BD.out y (List.mem_of_mem_take hy))).mono ?_
        rw [G.out]
        rintro e w1 ⟨rfl, hb1⟩
        have hst : Below wr.heap.size wr w1 := Below.trans (by (repeat (first | with_reducible exact Below.refl _ _ | with_reducible exact hbw | (with_reducible refine Below.setCell ?_ ?_ _; rotate_left; · first | exact Nat.le_refl _ | omega | (simp; done) | (simp; omega)) | (with_reducible refine Below.alloc ?_ ?_ _; rotate_left; · first | exact Nat.le_refl _ | omega | (simp; done) | (simp; omega)) | with_reducible refine below_drewN ?_ _ | with_reducible refine Below.drew ?_))) (undrewA hb1)
        have hz1 := hst.size
        go_wp2_with fail
        refine And.intro (grown_of_below hb1) ?_
        (with_reducible refine wpOrdG_nil ?_); refine NoPanic.normal ?_
        have y1 := cellB hst y1
        have HO1 := Lib.hid (owns_mono HO.out hst); have HB1 := Lib.hid (HB.out.trans (hst.mono (by omega)))
        clear hst hb1
        go_wp2
        go_roundw
        case rel => exact ⟨k + 1, n, a', c', by omega, by go_num, by rw [F.out]; exact HN.out, rfl, by rw [F.out]; exact HO1.out, HB1.out, by omega, y1⟩
        case measure => simp [intOf] <;> omega
    · obtain rfl : k = x.tones.length := by omega
      have hO : w.heap.size ≤ w.heap.size + 1 := by omega
      have HO2 := Lib.hid (show OwnInts w.heap.size wr.heap.size wr (.slice a' n c') (fastL x.tones rest x.tones.length) from OwnInts.mk' (by have := owns_base HO.out hO; rw [← HN.out]; exact this))
      go_wp2
      go_ret
      exact ⟨_, rfl, HO2.out, hb⟩


end Go.Proofs.Ytemmnjokojgjaaa
