import Derived.Test.YtemmnjokojgjaaaFfZ11
import Derived.Test.YtemmnjokojgjaaaFfZ9
import Derived.Test.YtemmnjokojgjaaaFfZ2
import Derived.Test.YtemmnjokojgjaaaFfZ3
/- What the law FnArranging asks, plain. -/
set_option linter.unusedSimpArgs false
set_option linter.unnecessarySimpa false
set_option linter.unusedVariables false
set_option maxRecDepth 100000
namespace Go.Proofs.Ytemmnjokojgjaaa
open Go.RowKit

/-- A step adds no tone, or one new tone at the end. -/
theorem ar_cases (ns : List Int) (b : Int) (s : List Ton × List Bool) (x : Ton) :
    ((arStep ns b s x).1.length = s.1.length ∧ ∀ y ∈ (arStep ns b s x).1, y ∈ s.1 ∨ (y = arTon ns b x ∧ ¬ placeV ns (x.note + b) < 0)) ∨ (¬ placeV ns (x.note + b) < 0 ∧ arStep ns b s x = (s.1 ++ [arTon ns b x], s.2 ++ [arMv ns b x])) := by
  by_cases hp : placeV ns (x.note + b) < 0
  · left; rw [ar_drop hp]; exact ⟨rfl, fun y hy => .inl hy⟩
  · by_cases hn : ∀ j (hj : j < s.1.length), snB (arTon ns b x) s.1[j] = false
    · right; exact ⟨hp, ar_new hp hn⟩
    · left
      have : ∃ k, s.1.findIdx? (snB (arTon ns b x)) = some k := by
        cases h : s.1.findIdx? (snB (arTon ns b x)) with
        | some k => exact ⟨k, rfl⟩
        | none =>
          rw [List.findIdx?_eq_none_iff] at h
          exact absurd (fun j hj => h _ (List.getElem_mem hj)) hn
      obtain ⟨k, hk⟩ := this
      obtain ⟨hk1, hk2, hk3⟩ := List.findIdx?_eq_some_iff_getElem.1 hk
      have hk4 : ∀ j (hj : j < s.1.length), j < k → snB (arTon ns b x) s.1[j] = false := fun j hj h => by simpa using hk3 j h
      by_cases hl : s.1[k].len < x.len
      · rw [ar_set hp hk1 hk2 hk4 hl]
        refine ⟨by simp, fun y hy => ?_⟩
        rcases List.mem_or_eq_of_mem_set hy with h | h
        · exact .inl h
        · exact .inr ⟨h, hp⟩
      · rw [ar_keep hp hk1 hk2 hk4 hl]
        exact ⟨rfl, fun y hy => .inl hy⟩
theorem ar_notes {ns : List Int} {b : Int} {ts : List Ton} : ∀ k, k ≤ ts.length → ∀ y ∈ (arTo ns b ts k).1, y.note ∈ ns
  | 0, _, y, hy => by cases hy
  | k + 1, hk, y, hy => by
    have ih := ar_notes (ns := ns) (b := b) (ts := ts) k (by omega)
    rw [arTo_at (by omega : k < ts.length)] at hy
    have hin : ∀ x : Ton, ¬ placeV ns (x.note + b) < 0 → (arTon ns b x).note ∈ ns := fun x h => by
      rcases place_in ns (x.note + b) with e | e
      · omega
      · exact e
    rcases ar_cases ns b (arTo ns b ts k) ts[k] with ⟨_, h⟩ | ⟨h1, h2⟩
    · rcases h y hy with h | ⟨rfl, h⟩
      · exact ih y h
      · exact hin _ h
    · rw [h2] at hy
      rcases List.mem_append.1 hy with h | h
      · exact ih y h
      · rw [List.mem_singleton.1 h]; exact hin _ h1
theorem ar_len {ns : List Int} {b : Int} {ts : List Ton} : ∀ k, k ≤ ts.length → (arTo ns b ts k).1.length ≤ k
  | 0, _ => Nat.le_refl _
  | k + 1, hk => by
    have ih := ar_len (ns := ns) (b := b) (ts := ts) k (by omega)
    rw [arTo_at (by omega : k < ts.length)]
    rcases ar_cases ns b (arTo ns b ts k) ts[k] with ⟨h, _⟩ | ⟨h1, h2⟩
    · omega
    · rw [h2]; simp; omega
/-- Nothing dropped: each tone became one of its own. -/
theorem ar_full {ns : List Int} {b : Int} {ts : List Ton} : ∀ k, k ≤ ts.length → (arTo ns b ts k).1.length = k → (∀ j (hj : j < ts.length), j < k → ¬ placeV ns (ts[j].note + b) < 0) ∧ (arTo ns b ts k).2 = (ts.take k).map (arMv ns b)
  | 0, _, _ => ⟨fun j hj h => by omega, rfl⟩
  | k + 1, hk, hl => by
    have hkt : k < ts.length := by omega
    have hle := ar_len (ns := ns) (b := b) (ts := ts) k (by omega)
    rw [arTo_at hkt] at hl ⊢
    rcases ar_cases ns b (arTo ns b ts k) ts[k] with ⟨h, _⟩ | ⟨h1, h2⟩
    · omega
    · rw [h2] at hl ⊢
      simp at hl
      obtain ⟨i1, i2⟩ := ar_full (ns := ns) (b := b) (ts := ts) k (by omega) hl
      refine ⟨fun j hj hj2 => ?_, ?_⟩
      · by_cases e : j = k
        · subst e; exact h1
        · exact i1 j hj (by omega)
      · rw [i2, List.take_succ_eq_append_getElem hkt, List.map_append]; rfl
theorem mv_zero {l : List Bool} : ∀ k, mvCnt l k = 0 → ∀ j, j < k → l.getD j false = false
  | 0, _, j, h => by omega
  | k + 1, h, j, hj => by
    have hb := mv_bd l k
    by_cases e : l.getD k false = true
    · rw [mv_yes e] at h; omega
    · have e' : l.getD k false = false := by simpa using e
      rw [mv_no e'] at h
      by_cases hjk : j = k
      · subst hjk; exact e'
      · exact mv_zero k h j (by omega)
theorem mv_none {l : List Bool} (h : ∀ j, l.getD j false = false) : ∀ k, mvCnt l k = 0
  | 0 => rfl
  | k + 1 => by rw [mv_no (h k)]; exact mv_none h k
theorem place_self {ns : List Int} {n : Int} (h : n ∈ ns) : placeV ns n = n := by
  have := pf_lo (notes := ns) (note := n) (f := 16) (k := 0) (by simpa using h)
  unfold placeV; rw [this]; simp
/-- All bells there: each tone is kept as it is. -/
theorem ar_same {ns : List Int} {b : Int} {ts : List Ton} (hs : SetIn ns) (hst : Stc ts) (h : ∀ x ∈ ts, x.note + b ∈ ns) : ∀ k, k ≤ ts.length → arTo ns b ts k = ((ts.take k).map (fun x => (⟨x.note + b, x.start, x.len⟩ : Ton)), (ts.take k).map fun _ => false)
  | 0, _ => rfl
  | k + 1, hk => by
    have hkt : k < ts.length := by omega
    have ih := ar_same hs hst h k (by omega)
    have hm := h _ (List.getElem_mem hkt)
    have hp := place_self hm
    have h0 : ¬ placeV ns (ts[k].note + b) < 0 := by rw [hp]; have := hs _ hm; omega
    rw [arTo_at hkt, ih, ar_new h0]
    · simp only
      rw [List.take_succ_eq_append_getElem hkt, List.map_append, List.map_append]
      simp [arTon, arMv, hp]
    · intro j hj
      simp only [List.length_map, List.length_take] at hj
      simp only [List.getElem_map, List.getElem_take]
      have hb := List.pairwise_iff_getElem.1 hst j k (by omega) hkt (by omega)
      rw [Bool.eq_false_iff]
      intro hh
      obtain ⟨a1, a2⟩ := snB_iff.1 hh
      simp only [arTon, hp] at a1 a2
      unfold before at hb
      omega
theorem miss_zero {x : TunD} {ns : List Int} {b : Int} : missV x ns b = 0 ↔ ∀ t ∈ x.tones, t.note + b ∈ ns := by
  unfold missV missL
  constructor
  · intro h t ht
    have h' : (x.tones.filter fun x => decide (x.note + b ∉ ns)) = [] := List.length_eq_zero_iff.1 (by omega)
    rw [List.filter_eq_nil_iff] at h'
    have := h' t ht
    simpa using this
  · intro h
    have h' : (x.tones.filter fun x => decide (x.note + b ∉ ns)) = [] := by
      rw [List.filter_eq_nil_iff]
      intro t ht
      simpa using h t ht
    rw [h']; rfl
theorem cost_zero {x : TunD} {ns : List Int} {b : Int} (hx : validTunB x = true) (hs : SetIn ns) : missV x ns b = 0 ↔ arC x ns b = 0 := by
  have hst := tones_stc (validTunB_iff.1 hx).tones
  rw [miss_zero]
  constructor
  · intro h
    have e := ar_same hs hst h x.tones.length (Nat.le_refl _)
    have hd : arD x ns b = 0 := by unfold arD; rw [e]; simp
    have hm : arM x ns b = 0 := by
      unfold arM
      rw [e]
      exact mv_none (fun j => by
        rw [List.getD_eq_getElem?_getD, List.getElem?_map]
        cases (x.tones.take x.tones.length)[j]? <;> rfl) _
    unfold arC; omega
  · intro h
    have hb := ar_bd (b := b) hx hs
    unfold arC at h
    have hd : arD x ns b = 0 := by omega
    have hm : arM x ns b = 0 := by omega
    unfold arD at hd
    obtain ⟨f1, f2⟩ := ar_full (ns := ns) (b := b) (ts := x.tones) x.tones.length (Nat.le_refl _) (by omega)
    unfold arM at hm
    have hz := mv_zero _ hm
    intro t ht
    obtain ⟨k, hk, rfl⟩ := List.getElem_of_mem ht
    have h1 := f1 k hk hk
    have h2 := hz k (by omega)
    rw [f2, List.getD_eq_getElem?_getD, List.getElem?_map, List.take_length, List.getElem?_eq_getElem hk] at h2
    simp only [Option.map_some, Option.getD_some, arMv] at h2
    have h3 : placeV ns (x.tones[k].note + b) = x.tones[k].note + b := by simpa using h2
    rcases place_in ns (x.tones[k].note + b) with e | e
    · omega
    · rw [← h3]; exact e
/-- What holds of an arranged tune. -/
theorem arr_fn {x : TunD} {ns : List Int} {b : Int} (h : askC x ns b = 0) :
    validTunB (atV x ns b) = true ∧ acoV x ns b = atM x ns b + 10 * atD x ns b ∧ askC (atV x ns b) ns 0 = 0 ∧ mtV (atV x ns b) ns 0 = 0 ∧ ((atV x ns b).tones.length : Int) + atD x ns b = x.tones.length ∧ atM x ns b ≤ (atV x ns b).tones.length ∧ (mtV x ns b = 0 ↔ acoV x ns b = 0) ∧ (0 ≤ atM x ns b ∧ atM x ns b ≤ 128) ∧ (0 ≤ atD x ns b ∧ atD x ns b ≤ 128) := by
  obtain ⟨hx, hv, hb⟩ := ask_zero.1 h
  have hs := set_in hv
  obtain ⟨e1, e2, e3⟩ := at_yes h
  have hbd := ar_bd (b := b) hx hs
  have hp := sortT_perm (arK x ns b)
  have hval := ar_valid (b := b) hx hs (d := sortT (arK x ns b)) hp (sortT_srt _)
  have et : arT x ns b = ⟨x.name, sortT (arK x ns b)⟩ := (to_yes hp (sortT_srt _) hval).1
  rw [← et] at hval
  have hlen : (arT x ns b).tones.length = (arTo ns b x.tones x.tones.length).1.length := by rw [et]; exact hp.length_eq
  have eaco : acoV x ns b = arC x ns b := if_pos h
  have em : mtV x ns b = missV x ns b := if_pos h
  rw [e1, e2, e3, eaco, em]
  have hask : askC (arT x ns b) ns 0 = 0 := ask_ok hval hv ⟨by omega, by omega⟩
  refine ⟨hval, rfl, hask, ?_, ?_, ?_, cost_zero hx hs, ⟨hbd.1, hbd.2.1⟩, ⟨hbd.2.2.1, hbd.2.2.2⟩⟩
  · have : mtV (arT x ns b) ns 0 = missV (arT x ns b) ns 0 := if_pos hask
    rw [this, miss_zero]
    intro t ht
    rw [et] at ht
    have := ar_notes (ns := ns) (b := b) (ts := x.tones) x.tones.length (Nat.le_refl _) t (hp.mem_iff.1 ht)
    simpa using this
  · rw [hlen]; unfold arD; omega
  · rw [hlen]; exact (mv_bd _ _).2
theorem arr_bad {x : TunD} {ns : List Int} {b : Int} (h : ¬ askC x ns b = 0) : acoV x ns b = 0 ∧ (atV x ns b).tones.length = 0 := ⟨if_neg h, by rw [(at_no h).1]; rfl⟩

/-- The place that is found is nearest. -/
theorem near_from (ns : List Int) (n : Int) : ∀ f k : Nat, placeFrom ns n f k = -1 ∨ ∃ j : Nat, k ≤ j ∧ j < k + f ∧ (placeFrom ns n f k = n - 12 * (j : Int) ∨ placeFrom ns n f k = n + 12 * (j : Int)) ∧ placeFrom ns n f k ∈ ns ∧ ∀ i : Nat, k ≤ i → i < j → n - 12 * (i : Int) ∉ ns ∧ n + 12 * (i : Int) ∉ ns
  | 0, k => .inl rfl
  | f + 1, k => by
    by_cases h1 : n - 12 * (k : Int) ∈ ns
    · right; rw [pf_lo h1]; exact ⟨k, Nat.le_refl _, by omega, .inl rfl, h1, fun i h h' => by omega⟩
    · by_cases h2 : n + 12 * (k : Int) ∈ ns
      · right; rw [pf_hi h1 h2]; exact ⟨k, Nat.le_refl _, by omega, .inr rfl, h2, fun i h h' => by omega⟩
      · rw [pf_no h1 h2]
        rcases near_from ns n f (k + 1) with h | ⟨j, j1, j2, j3, j4, j5⟩
        · exact .inl h
        · refine .inr ⟨j, by omega, by omega, j3, j4, fun i hi hij => ?_⟩
          by_cases e : i = k
          · subst e; exact ⟨h1, h2⟩
          · exact j5 i (by omega) hij
def absI (n : Int) : Int := if n < 0 then -n else n
theorem place_fn {ns : List Int} {n : Int} (h : pnC ns n = 0) : pnV ns n ∈ ns ∧ (0 ≤ pnV ns n ∧ pnV ns n ≤ 127) ∧ pnIn n ∧ validSet ns = true ∧ (pnV ns n - n).tmod 12 = 0 ∧ ∀ x ∈ ns, (x - n).tmod 12 = 0 → absI (pnV ns n - n) ≤ absI (x - n) := by
  unfold pnC at h
  split at h
  · rename_i hv
    split at h
    · rename_i hn
      split at h
      · omega
      · rename_i hp
        have hs := set_in hv
        have e : pnV ns n = placeV ns n := by unfold pnV; rw [if_pos hv, if_pos hn, if_neg hp]
        rw [e]
        rcases near_from ns n 17 0 with h | ⟨j, _, _, j3, j4, j5⟩
        · exfalso; apply hp; unfold placeV; rw [h]; omega
        · change placeV ns n = _ ∨ placeV ns n = _ at j3
          change placeV ns n ∈ ns at j4
          refine ⟨j4, hs _ j4, hn, hv, ?_, fun x hx hd => ?_⟩
          · rcases j3 with j3 | j3
            · rw [j3, show n - 12 * (j : Int) - n = 12 * (-(j : Int)) by omega]; exact Int.mul_tmod_right _ _
            · rw [j3, show n + 12 * (j : Int) - n = 12 * (j : Int) by omega]; exact Int.mul_tmod_right _ _
          · obtain ⟨q, hq⟩ := Int.dvd_of_tmod_eq_zero hd
            by_cases hlt : q.natAbs < j
            · exfalso
              obtain ⟨b1, b2⟩ := j5 q.natAbs (Nat.zero_le _) hlt
              rcases Int.natAbs_eq q with e | e
              · exact b2 (by rw [show n + 12 * (q.natAbs : Int) = x by omega]; exact hx)
              · exact b1 (by rw [show n - 12 * (q.natAbs : Int) = x by omega]; exact hx)
            · unfold absI
              rcases j3 with j3 | j3 <;> rw [j3] <;> split <;> split <;> omega
    · omega
  · omega
theorem place_bad {ns : List Int} {n : Int} (h : ¬ pnC ns n = 0) : pnV ns n = 0 := by
  unfold pnC at h
  unfold pnV
  split
  · rename_i hv
    rw [if_pos hv] at h
    split
    · rename_i hn
      rw [if_pos hn] at h
      split
      · rfl
      · rename_i hp; rw [if_neg hp] at h; exact absurd rfl h
    · rfl
  · rfl

end Go.Proofs.Ytemmnjokojgjaaa
/- Contracts of IndexFunc and ContainsFunc at tones, of tooSoon, fastRepeats, l26Fast and FastRepeats of both packages. -/
set_option linter.unusedSimpArgs false
set_option linter.unnecessarySimpa false
set_option linter.unusedVariables false
set_option maxRecDepth 100000
namespace Go.Proofs.Ytemmnjokojgjaaa
open Go.RowKit

/-- r is the first index with a property, or -1. -/
def Idx (P : Ton → Bool) (ts : List Ton) (r : Int) : Prop :=
  (r = -1 ∧ ∀ j (hj : j < ts.length), P ts[j] = false) ∨ ∃ (k : Nat) (hk : k < ts.length), r = (k : Int) ∧ P ts[k] = true ∧ ∀ j (hj : j < ts.length), j < k → P ts[j] = false
theorem Idx.any {P : Ton → Bool} {ts : List Ton} {r : Int} (h : Idx P ts r) : decide (0 ≤ r) = ts.any P := by
  rcases h with ⟨rfl, h⟩ | ⟨k, hk, rfl, h1, _⟩
  · have : ts.any P = false := by
      rw [List.any_eq_false]
      intro x hx
      obtain ⟨j, hj, rfl⟩ := List.getElem_of_mem hx
      rw [h j hj]; exact Bool.false_ne_true
    rw [this]; rfl
  · have : ts.any P = true := List.any_eq_true.2 ⟨_, List.getElem_mem hk, h1⟩
    rw [this]; simp

set_option maxHeartbeats 1000000 in
theorem idxF1_any (N : Nat) (p : Value) (P : Ton → Bool) (v : Value) (ts : List Ton) (w : World) (h : Tons w v ts)
    (hN : ∀ args w, Sem.run Try.prog (callFunc N args) w = .ok (.enter N args) w)
    (hF : ∀ k (hk : k < ts.length) (w1 : World), Below w.heap.size w w1 → Calls Try.prog N #[.agg #[.int .i64 ts[k].note, .int .i64 ts[k].start, .int .i64 ts[k].len], p] w1 fun e w2 => e = .returned (.bool (P ts[k])) ∧ Below w1.heap.size w1 w2) :
    Calls Try.prog 78 #[v, .func (.func N) #[] #[p]] w fun e w' => ∃ r : Int, e = .returned (.int .i64 r) ∧ Idx P ts r ∧ Below w.heap.size w w' := by
  obtain ⟨a, ca, rfl, hca, hcm, _⟩ := id h
  have hm : ts.length ≤ maxLen := by omega
  clear hca hcm
  unfold maxLen at hm
  have HF := Lib.hid hF; clear hF
  go_enter Try.func78, Try.ntmps78
  go_wp2_with fail
  go_loopw [8, 5] (fun i _ wr => ∃ k : Nat, k ≤ ts.length ∧ i = .int .i64 (k : Int) ∧ (∀ j (hj : j < ts.length), j < k → P ts[j] = false) ∧ Below w.heap.size w wr) (fun i _ _ => ts.length - (intOf i).toNat)
  case atStart => exact ⟨0, Nat.zero_le _, by go_num, by intro j hj h; omega, Below.refl _ _⟩
  case round =>
    obtain ⟨k, hk, rfl, ht, hb⟩ := hrel
    have HT := Lib.hid ht; clear ht
    by_cases hlt : k < ts.length
    · obtain ⟨b1, o1, rfl, hB1, d0, d1, d2⟩ := (h.mono hb).at hlt
      have hz := hb.size
      by_cases g : P ts[k] = true
      · have G := Lib.hid g; clear g
        go_wp2_with fail
        refine (HF.out k hlt _ hb).mono ?_
        rw [G.out]
        rintro e w1 ⟨rfl, hb1⟩
        go_wp2
        go_ret
        exact ⟨k, rfl, .inr ⟨k, hlt, rfl, G.out, HT.out⟩, hb.trans (hb1.mono hz)⟩
      · have G := Lib.hid (show P ts[k] = false by simpa using g); clear g
        go_wp2_with fail
        refine (HF.out k hlt _ hb).mono ?_
        rw [G.out]
        rintro e w1 ⟨rfl, hb1⟩
        go_wp2
        go_roundw
        case rel =>
          refine ⟨k + 1, by omega, by go_num, fun j hj hjk => ?_, hb.trans (hb1.mono hz)⟩
          rcases Nat.lt_or_eq_of_le (Nat.le_of_lt_succ hjk) with h1 | h1
          · exact HT.out j hj h1
          · subst h1; exact G.out
        case measure => simp [intOf] <;> omega
    · go_wp2
      go_ret
      exact ⟨-1, rfl, .inl ⟨rfl, fun j hj => HT.out j hj (by omega)⟩, hb⟩

set_option maxHeartbeats 1000000 in
theorem idxF2_any (N : Nat) (p q : Value) (P : Ton → Bool) (v : Value) (ts : List Ton) (w : World) (h : Tons w v ts)
    (hN : ∀ args w, Sem.run Try.prog (callFunc N args) w = .ok (.enter N args) w)
    (hF : ∀ k (hk : k < ts.length) (w1 : World), Below w.heap.size w w1 → Calls Try.prog N #[.agg #[.int .i64 ts[k].note, .int .i64 ts[k].start, .int .i64 ts[k].len], p, q] w1 fun e w2 => e = .returned (.bool (P ts[k])) ∧ Below w1.heap.size w1 w2) :
    Calls Try.prog 78 #[v, .func (.func N) #[] #[p, q]] w fun e w' => ∃ r : Int, e = .returned (.int .i64 r) ∧ Idx P ts r ∧ Below w.heap.size w w' := by
  obtain ⟨a, ca, rfl, hca, hcm, _⟩ := id h
  have hm : ts.length ≤ maxLen := by omega
  clear hca hcm
  unfold maxLen at hm
  have HF := Lib.hid hF; clear hF
  go_enter Try.func78, Try.ntmps78
  go_wp2_with fail
  go_loopw [8, 5] (fun i _ wr => ∃ k : Nat, k ≤ ts.length ∧ i = .int .i64 (k : Int) ∧ (∀ j (hj : j < ts.length), j < k → P ts[j] = false) ∧ Below w.heap.size w wr) (fun i _ _ => ts.length - (intOf i).toNat)
  case atStart => exact ⟨0, Nat.zero_le _, by go_num, by intro j hj h; omega, Below.refl _ _⟩
  case round =>
    obtain ⟨k, hk, rfl, ht, hb⟩ := hrel
    have HT := Lib.hid ht; clear ht
    by_cases hlt : k < ts.length
    · obtain ⟨b1, o1, rfl, hB1, d0, d1, d2⟩ := (h.mono hb).at hlt
      have hz := hb.size
      by_cases g : P ts[k] = true
      · have G := Lib.hid g; clear g
        go_wp2_with fail
        refine (HF.out k hlt _ hb).mono ?_
        rw [G.out]
        rintro e w1 ⟨rfl, hb1⟩
        go_wp2
        go_ret
        exact ⟨k, rfl, .inr ⟨k, hlt, rfl, G.out, HT.out⟩, hb.trans (hb1.mono hz)⟩
      · have G := Lib.hid (show P ts[k] = false by simpa using g); clear g
        go_wp2_with fail
        refine (HF.out k hlt _ hb).mono ?_
        rw [G.out]
        rintro e w1 ⟨rfl, hb1⟩
        go_wp2
        go_roundw
        case rel =>
          refine ⟨k + 1, by omega, by go_num, fun j hj hjk => ?_, hb.trans (hb1.mono hz)⟩
          rcases Nat.lt_or_eq_of_le (Nat.le_of_lt_succ hjk) with h1 | h1
          · exact HT.out j hj h1
          · subst h1; exact G.out
        case measure => simp [intOf] <;> omega
    · go_wp2
      go_ret
      exact ⟨-1, rfl, .inl ⟨rfl, fun j hj => HT.out j hj (by omega)⟩, hb⟩

set_option maxHeartbeats 400000 in
theorem anyF2_any (N : Nat) (p q : Value) (P : Ton → Bool) (v : Value) (ts : List Ton) (w : World) (h : Tons w v ts)
    (hN : ∀ args w, Sem.run Try.prog (callFunc N args) w = .ok (.enter N args) w)
    (hF : ∀ k (hk : k < ts.length) (w1 : World), Below w.heap.size w w1 → Calls Try.prog N #[.agg #[.int .i64 ts[k].note, .int .i64 ts[k].start, .int .i64 ts[k].len], p, q] w1 fun e w2 => e = .returned (.bool (P ts[k])) ∧ Below w1.heap.size w1 w2) :
    Calls Try.prog 97 #[v, .func (.func N) #[] #[p, q]] w fun e w' => e = .returned (.bool (ts.any P)) ∧ Below w.heap.size w w' := by
  go_enter Try.func97, Try.ntmps97
  go_wp2_with fail
  refine (idxF2_any N p q P v ts _ h hN hF).mono ?_
  rintro e w1 ⟨r, rfl, hr, hb⟩
  have HX := Lib.hid hr.any
  clear hr
  go_wp2
  go_ret
  exact ⟨ret_bool HX.out, hb⟩

/-- y has the note of x and begins less than some ticks before it. -/
def soon (x : Ton) (rest : Int) (y : Ton) : Bool := decide (y.note = x.note) && decide (x.start - y.start < rest)
theorem enters_soon (args : Array Value) (w : World) : Sem.run Try.prog (callFunc 98 args) w = .ok (.enter 98 args) w := by
  first | rfl | (simp [callFunc, go_sem]; done) | (go_simp; done)
def tonBd (x : Ton) : Prop := 0 ≤ x.start ∧ x.start ≤ 1000000

set_option maxHeartbeats 1000000 in
theorem soon1_any (x y : Ton) (c1 c2 : Nat) (rest : Int) (w : World) (h0 : w.cell? ⟨c1, 0, none⟩ = some (.int .i64 x.note)) (h1 : w.cell? ⟨c1, 1, none⟩ = some (.int .i64 x.start)) (h2 : w.cell? ⟨c2, 0, none⟩ = some (.int .i64 rest)) (hx : tonBd x) (hy : tonBd y) :
    Calls Try.prog 98 #[.agg #[.int .i64 y.note, .int .i64 y.start, .int .i64 y.len], .pointer (some ⟨c1, 0, none⟩), .pointer (some ⟨c2, 0, none⟩)] w fun e w' => e = .returned (.bool (soon x rest y)) ∧ Below w.heap.size w w' := by
  have hl1 := World.block_lt_of_cell? w _ h0
  have hl2 := World.block_lt_of_cell? w _ h2
  simp only at hl1 hl2
  have l1 : c1 < w.heap.size + 1 := by omega
  have l2 : c2 < w.heap.size + 1 := by omega
  unfold tonBd at hx hy
  have q1 : IntKind.i64.wrap (x.start - y.start) = x.start - y.start := IntWalk.i64_in _ (by omega)
  clear hx hy
  by_cases g1 : y.note = x.note
  · have d1 : (y.note == x.note) = true := by simpa using g1
    have E := Lib.hid (show decide (x.start - y.start < rest) = soon x rest y by unfold soon; simp [g1])
    clear g1
    go_enter Try.func98, Try.ntmps98
    go_wp2
    go_ret
    refine ⟨ret_bool E.out, ?_⟩
    (repeat (first | with_reducible exact Below.refl _ _ | with_reducible exact hbw | (with_reducible refine Below.setCell ?_ ?_ _; rotate_left; · first | exact Nat.le_refl _ | omega | (simp; done) | (simp; omega)) | (with_reducible refine Below.alloc ?_ ?_ _; rotate_left; · first | exact Nat.le_refl _ | omega | (simp; done) | (simp; omega)) | with_reducible refine below_drewN ?_ _ | with_reducible refine Below.drew ?_))
  · have d1 : (y.note == x.note) = false := by simpa using g1
    have E := Lib.hid (show false = soon x rest y by unfold soon; simp [g1])
    clear g1
    go_enter Try.func98, Try.ntmps98
    go_wp2
    go_ret
    refine ⟨ret_bool E.out, ?_⟩
    (repeat (first | with_reducible exact Below.refl _ _ | with_reducible exact hbw | (with_reducible refine Below.setCell ?_ ?_ _; rotate_left; · first | exact Nat.le_refl _ | omega | (simp; done) | (simp; omega)) | (with_reducible refine Below.alloc ?_ ?_ _; rotate_left; · first | exact Nat.le_refl _ | omega | (simp; done) | (simp; omega)) | with_reducible refine below_drewN ?_ _ | with_reducible refine Below.drew ?_))

set_option maxHeartbeats 1000000 in
theorem tooSoon_any (v : Value) (ts : List Ton) (x : Ton) (rest : Int) (w : World) (h : Tons w v ts) (hx : tonBd x) (ht : ∀ y ∈ ts, tonBd y) :
    Calls Try.prog 69 #[v, .agg #[.int .i64 x.note, .int .i64 x.start, .int .i64 x.len], .int .i64 rest] w fun e w' => e = .returned (.bool (ts.any (soon x rest))) ∧ Below w.heap.size w w' := by
  obtain ⟨a, ca, rfl, _⟩ := id h
  have HX := Lib.hid hx; have HT := Lib.hid ht; clear hx ht
  go_enter Try.func69, Try.ntmps69
  go_wp2_with fail
  refine (anyF2_any 98 (.pointer (some ⟨w.heap.size, 0, none⟩)) (.pointer (some ⟨w.heap.size + 1, 0, none⟩)) (soon x rest) _ ts _ (h.mono (by (repeat (first | with_reducible exact Below.refl _ _ | with_reducible exact hbw | (with_reducible refine Below.setCell ?_ ?_ _; rotate_left; · first | exact Nat.le_refl _ | omega | (simp; done) | (simp; omega)) | (with_reducible refine Below.alloc ?_ ?_ _; rotate_left; · first | exact Nat.le_refl _ | omega | (simp; done) | (simp; omega)) | with_reducible refine below_drewN ?_ _ | with_reducible refine Below.drew ?_)))) enters_soon (fun k hk w1 hb1 => soon1_any x ts[k] _ _ rest w1 (cellB hb1 (by simp [go_sem])) (cellB hb1 (by simp [go_sem])) (cellB hb1 (by simp [go_sem])) HX.out (HT.out _ (List.getElem_mem hk)))).mono ?_
  rintro e w1 ⟨rfl, hb⟩
  have hbw : Below w.heap.size w w1 := Below.trans (by (repeat (first | with_reducible exact Below.refl _ _ | with_reducible exact hbw | (with_reducible refine Below.setCell ?_ ?_ _; rotate_left; · first | exact Nat.le_refl _ | omega | (simp; done) | (simp; omega)) | (with_reducible refine Below.alloc ?_ ?_ _; rotate_left; · first | exact Nat.le_refl _ | omega | (simp; done) | (simp; omega)) | with_reducible refine below_drewN ?_ _ | with_reducible refine Below.drew ?_))) (hb.mono (by simp <;> omega))
  go_wp2
  go_ret
  exact ⟨rfl, hbw⟩

/-- The indices of fast tones below k. -/
def fastAt (ts : List Ton) (rest : Int) (k : Nat) : Bool := match ts[k]? with
  | some x => (ts.take k).any (soon x rest)
  | none => false
def fastL (ts : List Ton) (rest : Int) : Nat → List Int
  | 0 => []
  | k + 1 => if fastAt ts rest k = true then fastL ts rest k ++ [(k : Int)] else fastL ts rest k
theorem fastAt_eq {ts : List Ton} {rest : Int} {k : Nat} (h : k < ts.length) : fastAt ts rest k = (ts.take k).any (soon ts[k] rest) := by
  unfold fastAt; rw [List.getElem?_eq_getElem h]
theorem fastL_yes {ts : List Ton} {rest : Int} {k : Nat} (h : fastAt ts rest k = true) : fastL ts rest (k + 1) = fastL ts rest k ++ [(k : Int)] := if_pos h
theorem fastL_no {ts : List Ton} {rest : Int} {k : Nat} (h : fastAt ts rest k = false) : fastL ts rest (k + 1) = fastL ts rest k := if_neg (by rw [h]; exact Bool.false_ne_true)
theorem fastL_len (ts : List Ton) (rest : Int) : ∀ k, (fastL ts rest k).length ≤ k
  | 0 => Nat.le_refl _
  | k + 1 => by
    have := fastL_len ts rest k
    unfold fastL; split
    · simp; omega
    · omega
theorem tun_bd {x : TunD} (h : validTunB x = true) : ∀ y ∈ x.tones, tonBd y := by
  intro y hy
  obtain ⟨k, hk, rfl⟩ := List.getElem_of_mem hy
  have := (tun_tone h hk).fits
  unfold tonBd; omega

theorem tons_take' {w : World} {a : Option Addr} {ca : Nat} {xs : List Ton} (h : Tons w (.slice a xs.length ca) xs) {k : Nat} (hk : k ≤ xs.length) : Tons w (.slice a k ca) (xs.take k) := by
  obtain ⟨a', c', e, h1, h2, h3⟩ := h
  simp only [Value.slice.injEq] at e
  obtain ⟨rfl, _, rfl⟩ := e
  have hl : (xs.take k).length = k := by rw [List.length_take, Nat.min_eq_left hk]
  refine ⟨_, _, by rw [hl], by rw [hl]; omega, h2, fun j u hu => h3 j u ?_⟩
  have e2 : xs.flatMap Ton.cells = (xs.take k).flatMap Ton.cells ++ (xs.drop k).flatMap Ton.cells := by rw [← List.flatMap_append, List.take_append_drop]
  have hj := (List.getElem?_eq_some_iff.1 hu).1
  rw [e2, List.getElem?_append_left hj]; exact hu
theorem undrewA {w w' : World} {o : Obj} (h : Below (w.alloc o).drew.heap.size (w.alloc o).drew w') : Below w.heap.size (w.alloc o) w' := ⟨h.os, h.tape, h.output, h.size, fun k hk => h.block k (by simp; omega)⟩

set_option maxHeartbeats 2000000 in
theorem fastRepeats_any (vt lv : Value) (x : TunD) (rest : Int) (w : World) (h : Tun w vt lv x) (ok : validTunB x = true) :
    Calls Try.prog 70 #[vt, .int .i64 rest] w fun e w' => ∃ v', e = .returned v' ∧ OwnInts w.heap.size w'.heap.size w' v' (fastL x.tones rest x.tones.length) ∧ Below w.heap.size w w' := by
  obtain ⟨rfl, hlv⟩ := h
  obtain ⟨a, ca, rfl, hca, hcm, _⟩ := id hlv
  have hl := tun_len ok
  have OK := Lib.hid ok; have BD := Lib.hid (tun_bd ok); clear ok
  go_enter Try.func70, Try.ntmps70
  go_wp2_with fail
  go_loopw [5, 11, 6, 7] (fun o i _ _ wr => ∃ (k n : Nat) (a' : Option Addr) (c' : Nat), k ≤ x.tones.length ∧ i = .int .i64 (k : Int) ∧ n = (fastL x.tones rest k).length ∧ o = .slice a' n c' ∧ wr.ownsRow (w.heap.size + 1) 2 1 (.slice a' n c') n ((fastL x.tones rest k).map (Value.int .i64)) ∧ Below w.heap.size w wr ∧ w.heap.size + 1 ≤ wr.heap.size ∧ wr.cell? ⟨w.heap.size, 1, none⟩ = some (.slice a x.tones.length ca)) (fun _ i _ _ _ => x.tones.length - (intOf i).toNat)
  case atStart => exact ⟨0, 0, none, 0, Nat.zero_le _, by go_num, rfl, rfl, by simpa [fastL] using owns_nil _ _ _ _, by (repeat (first | with_reducible exact Below.refl _ _ | with_reducible exact hbw | (with_reducible refine Below.setCell ?_ ?_ _; rotate_left; · first | exact Nat.le_refl _ | omega | (simp; done) | (simp; omega)) | (with_reducible refine Below.alloc ?_ ?_ _; rotate_left; · first | exact Nat.le_refl _ | omega | (simp; done) | (simp; omega)) | with_reducible refine below_drewN ?_ _ | with_reducible refine Below.drew ?_)), by simp, by simp [go_sem]⟩
  case round =>
    obtain ⟨k, n, a', c', hk, rfl, hn, rfl, ho, hb, hz, y1⟩ := hrel
    have HO := Lib.hid ho; have HN := Lib.hid hn; clear ho
    have fl := fastL_len x.tones rest k
    rw [← hn] at fl
    clear hn
    by_cases hlt : k < x.tones.length
    · obtain ⟨b1, o1, rfl, hB1, d0, d1, d2⟩ := (hlv.mono hb).at hlt
      have l1 : b1 < wr.heap.size + 1 := by omega
      have hT := tons_take' (hlv.mono hb) hk
      have kc : (k : Int) ≤ (ca : Int) := by omega
      have kn : k ≤ ca := by omega
      have k0 : (0 : Int) ≤ (k : Int) := by omega
      have kz : ((k : Int)).toNat = k := by omega
      have hw0 : w.heap.size < wr.heap.size := by omega
      have hw1 : w.heap.size < wr.heap.size + 1 := by omega
      have HT := Lib.hid hT; have HB := Lib.hid hb
      clear hT hb
      by_cases g : fastAt x.tones rest k = true
      · have F := Lib.hid (fastL_yes g)
        have G := Lib.hid (show (x.tones.take k).any (soon x.tones[k] rest) = true by rw [← fastAt_eq hlt]; exact g)
        clear g
        go_wp2_with fail
        refine wp_region_ordG [(0, 1), (1, 1), (2, 1), (3, 1), (4, 1), (5, 1), (6, 0)] [6] (none) (by kernel_rfl) (by kernel_rfl) ?_
        (repeat ((first | with_reducible refine wpOrdG_soft (fun K hK => ?_) | with_reducible refine wpOrdG_pre (fun K hK => ?_)); simp only [List.getElem?_toArray, List.getElem?_cons_zero, List.getElem?_cons_succ]; first | (go_simp; refine hK _ ?_) | (simp only [undef]; go_simp; refine hK _ ?_); clear hK K))
        (with_reducible refine wpOrdG_hard ?_; simp only [List.getElem?_toArray, List.getElem?_cons_zero, List.getElem?_cons_succ])
        go_wp2_with fail
        refine (tooSoon_any _ (x.tones.take k) x.tones[k] rest _ (HT.out.mono (by (repeat (first | with_reducible exact Below.refl _ _ | with_reducible exact hbw | (with_reducible refine Below.setCell ?_ ?_ _; rotate_left; · first | exact Nat.le_refl _ | omega | (simp; done) | (simp; omega)) | (with_reducible refine Below.alloc ?_ ?_ _; rotate_left; · first | exact Nat.le_refl _ | omega | (simp; done) | (simp; omega)) | with_reducible refine below_drewN ?_ _ | with_reducible refine Below.drew ?_)))) (BD.out _ (List.getElem_mem hlt)) (fun y hy => BD.out y (List.mem_of_mem_take hy))).mono ?_
        rw [G.out]
        rintro e w1 ⟨rfl, hb1⟩
        have hst : Below wr.heap.size wr w1 := Below.trans (by (repeat (first | with_reducible exact Below.refl _ _ | with_reducible exact hbw | (with_reducible refine Below.setCell ?_ ?_ _; rotate_left; · first | exact Nat.le_refl _ | omega | (simp; done) | (simp; omega)) | (with_reducible refine Below.alloc ?_ ?_ _; rotate_left; · first | exact Nat.le_refl _ | omega | (simp; done) | (simp; omega)) | with_reducible refine below_drewN ?_ _ | with_reducible refine Below.drew ?_))) (undrewA hb1)
        have hz1 := hst.size
        go_wp2_with fail
        refine And.intro (grown_of_below hb1) ?_
        (with_reducible refine wpOrdG_nil ?_); refine NoPanic.normal ?_
        have y1 := cellB hst y1
        have HO1 := Lib.hid (owns_mono HO.out hst); have HB1 := Lib.hid (HB.out.trans (hst.mono (by omega)))
        clear hst hb1
        go_wp2_with (at_builtin; refine append_one rfl _ _ 25 rfl (w.heap.size + 1) 2 (.int .i64 0) 1 8 Try.underlying25 info_int rfl (by decide) _ n _ rfl HO1.out [.int .i64 (k : Int)] rfl (by simp [Value.oneCell']) rfl (by omega) (by decide) (by omega) ?_)
        intro a5 c5 w5 ho5 _ hb5
        have y1 := cellL hb5 (by simp) y1
        have hz5 := hb5.size
        have HO5 := Lib.hid ho5; have HB5 := Lib.hid (HB1.out.trans (hb5.mono (by omega)))
        clear ho5 hb5
        go_wp2
        go_roundw
        case rel => exact ⟨k + 1, n + 1, a5, c5, by omega, by go_num, by rw [F.out, HN.out]; simp, rfl, by rw [F.out, List.map_append]; exact HO5.out, HB5.out, by omega, y1⟩
        case measure => simp [intOf] <;> omega
      · have g' : fastAt x.tones rest k = false := by simpa using g
        have F := Lib.hid (fastL_no g')
        have G := Lib.hid (show (x.tones.take k).any (soon x.tones[k] rest) = false by rw [← fastAt_eq hlt]; exact g')
        clear g g'
        go_wp2_with fail
        refine wp_region_ordG [(0, 1), (1, 1), (2, 1), (3, 1), (4, 1), (5, 1), (6, 0)] [6] (none) (by kernel_rfl) (by kernel_rfl) ?_
        (repeat ((first | with_reducible refine wpOrdG_soft (fun K hK => ?_) | with_reducible refine wpOrdG_pre (fun K hK => ?_)); simp only [List.getElem?_toArray, List.getElem?_cons_zero, List.getElem?_cons_succ]; first | (go_simp; refine hK _ ?_) | (simp only [undef]; go_simp; refine hK _ ?_); clear hK K))
        (with_reducible refine wpOrdG_hard ?_; simp only [List.getElem?_toArray, List.getElem?_cons_zero, List.getElem?_cons_succ])
        go_wp2_with fail
        refine (tooSoon_any _ (x.tones.take k) x.tones[k] rest _ (HT.out.mono (by (repeat (first | with_reducible exact Below.refl _ _ | with_reducible exact hbw | (with_reducible refine Below.setCell ?_ ?_ _; rotate_left; · first | exact Nat.le_refl _ | omega | (simp; done) | (simp; omega)) | (with_reducible refine Below.alloc ?_ ?_ _; rotate_left; · first | exact Nat.le_refl _ | omega | (simp; done) | (simp; omega)) | with_reducible refine below_drewN ?_ _ | with_reducible refine Below.drew ?_)))) (BD.out _ (List.getElem_mem hlt)) (fun y hy => BD.out y (List.mem_of_mem_take hy))).mono ?_
        rw [G.out]
        rintro e w1 ⟨rfl, hb1⟩
        have hst : Below wr.heap.size wr w1 := Below.trans (by (repeat (first | with_reducible exact Below.refl _ _ | with_reducible exact hbw | (with_reducible refine Below.setCell ?_ ?_ _; rotate_left; · first | exact Nat.le_refl _ | omega | (simp; done) | (simp; omega)) | (with_reducible refine Below.alloc ?_ ?_ _; rotate_left; · first | exact Nat.le_refl _ | omega | (simp; done) | (simp; omega)) | with_reducible refine below_drewN ?_ _ | with_reducible refine Below.drew ?_))) (undrewA hb1)
        have hz1 := hst.size
        go_wp2_with fail
        refine And.intro (grown_of_below hb1) ?_
        (with_reducible refine wpOrdG_nil ?_); refine NoPanic.normal ?_
        have y1 := cellB hst y1
        have HO1 := Lib.hid (owns_mono HO.out hst); have HB1 := Lib.hid (HB.out.trans (hst.mono (by omega)))
        clear hst hb1
        go_wp2
        go_roundw
        case rel => exact ⟨k + 1, n, a', c', by omega, by go_num, by rw [F.out]; exact HN.out, rfl, by rw [F.out]; exact HO1.out, HB1.out, by omega, y1⟩
        case measure => simp [intOf] <;> omega
    · obtain rfl : k = x.tones.length := by omega
      have hO : w.heap.size ≤ w.heap.size + 1 := by omega
      have HO2 := Lib.hid (show OwnInts w.heap.size wr.heap.size wr (.slice a' n c') (fastL x.tones rest x.tones.length) from OwnInts.mk' (by have := owns_base HO.out hO; rw [← HN.out]; exact this))
      go_wp2
      go_ret
      exact ⟨_, rfl, HO2.out, hb⟩


end Go.Proofs.Ytemmnjokojgjaaa
/- Contract of impl.arrange. -/
set_option linter.unusedSimpArgs false
set_option linter.unnecessarySimpa false
set_option linter.unusedVariables false
set_option maxRecDepth 100000
namespace Go.Proofs.Ytemmnjokojgjaaa
open Go.RowKit

theorem info_bool : (Try.prog.info? 4).map (fun i => (i.zero, i.size, i.bytes)) = some (some (.bool false), 1, 1) := by kernel_rfl

/-- Two rows of the call's own, apart: n tones, and n yes or no. -/
structure Kept (w : World) (B : Nat) (v1 v2 : Value) (n : Nat) (s : List Ton × List Bool) : Prop where
  len1 : s.1.length = n
  len2 : s.2.length = n
  r1 : w.ownsRow B 92 3 v1 n (s.1.flatMap Ton.cells)
  r2 : w.ownsRow B 4 1 v2 n (s.2.map Value.bool)
  ap : Apt v1 v2
theorem Kept.mono {w w' : World} {B n : Nat} {v1 v2 : Value} {s : List Ton × List Bool} (h : Kept w B v1 v2 n s) (hb : Below w.heap.size w w') : Kept w' B v1 v2 n s := ⟨h.len1, h.len2, owns_mono h.r1 hb, owns_mono h.r2 hb, h.ap⟩
theorem Kept.tons {w : World} {B n c1 : Nat} {a1 : Option Addr} {v2 : Value} {s : List Ton × List Bool} (h : Kept w B (.slice a1 n c1) v2 n s) : Tons w (.slice a1 n c1) s.1 := by
  have := Tons.of_owns (xs := s.1) (by rw [h.len1]; exact h.r1)
  exact this
theorem Kept.at {w : World} {B n c1 c2 k : Nat} {a1 a2 : Option Addr} {s : List Ton × List Bool} (h : Kept w B (.slice a1 n c1) (.slice a2 n c2) n s) (hk : k < n) :
    ∃ g1 g2, a1 = some ⟨g1, 0, none⟩ ∧ a2 = some ⟨g2, 0, none⟩ ∧ g1 ≠ g2 ∧ B ≤ g1 ∧ B ≤ g2 ∧ g1 < w.heap.size ∧ g2 < w.heap.size ∧ (∃ hk1 : k < s.1.length, w.cell? ⟨g1, k * 3, none⟩ = some (.int .i64 s.1[k].note) ∧ w.cell? ⟨g1, k * 3 + 1, none⟩ = some (.int .i64 s.1[k].start) ∧ w.cell? ⟨g1, k * 3 + 2, none⟩ = some (.int .i64 s.1[k].len)) ∧
      w.cell? ⟨g2, k, none⟩ = some (.bool (s.2.getD k false)) ∧ (∀ o, w.frozen? ⟨g1, o, none⟩ = false) ∧ (∀ o, w.frozen? ⟨g2, o, none⟩ = false) ∧
      ∀ (x : Ton) (m : Bool), Kept ((((w.setCell ⟨g1, k * 3, none⟩ (.int .i64 x.note)).setCell ⟨g1, k * 3 + 1, none⟩ (.int .i64 x.start)).setCell ⟨g1, k * 3 + 2, none⟩ (.int .i64 x.len)).setCell ⟨g2, k, none⟩ (.bool m)) B (.slice (some ⟨g1, 0, none⟩) n c1) (.slice (some ⟨g2, 0, none⟩) n c2) n (s.1.set k x, s.2.set k m) := by
  obtain ⟨l1, l2, r1, r2, ap⟩ := h
  obtain ⟨g1, rfl⟩ : ∃ g, a1 = some ⟨g, 0, none⟩ := by
    rcases r1.2 with ⟨e, h0⟩ | ⟨g, cap, cur, e, _⟩
    · omega
    · simp only [Value.slice.injEq] at e; exact ⟨g, e.1⟩
  obtain ⟨g2, rfl⟩ : ∃ g, a2 = some ⟨g, 0, none⟩ := by
    rcases r2.2 with ⟨e, h0⟩ | ⟨g, cap, cur, e, _⟩
    · omega
    · simp only [Value.slice.injEq] at e; exact ⟨g, e.1⟩
  have hne : g1 ≠ g2 := by
    rcases ap with h | h | h
    · simp [Value.ownBlock] at h
    · simp [Value.ownBlock] at h
    · exact fun e => h (by simp [Value.ownBlock, e])
  have hT : TR w B g1 n c1 s.1 := ⟨l1, r1⟩
  have hk1 : k < s.1.length := by omega
  refine ⟨g1, g2, rfl, rfl, hne, (r1.lt g1 rfl).1, (r2.lt g2 rfl).1, (r1.lt g1 rfl).2, (r2.lt g2 rfl).2, ⟨hk1, hT.at hk1⟩, ?_, fun o => r1.frozenAt o, fun o => r2.frozenAt o, fun x m => ?_⟩
  · rw [r2.cellAt _ (by first | omega | (simp; omega))]; simp [show k < s.2.length by omega]
  · have s1 := hT.set hk1 x
    have k2 := World.ownsRow.kept r2 s1.2 (.inr (by simp only [Value.ownBlock]; intro e; exact hne (Option.some.inj e).symm))
    have s2 := k2.stored k (.bool m)
    have k1 := World.ownsRow.kept s1.1.2 s2.2 (.inr (by simp only [Value.ownBlock]; intro e; exact hne (Option.some.inj e)))
    exact ⟨by simp [l1], by simp [l2], k1, by rw [List.map_set]; exact s2.1, ap⟩

theorem enters_arr (args : Array Value) (w : World) : Sem.run Try.prog (callFunc 79 args) w = .ok (.enter 79 args) w := by
  first | rfl | (simp [callFunc, go_sem]; done) | (go_simp; done)

set_option maxHeartbeats 1000000 in
theorem arr1_any (t y : Ton) (q : Nat) (w : World) (h0 : w.cell? ⟨q, 0, none⟩ = some (.int .i64 t.note)) (h1 : w.cell? ⟨q, 1, none⟩ = some (.int .i64 t.start)) :
    Calls Try.prog 79 #[.agg #[.int .i64 y.note, .int .i64 y.start, .int .i64 y.len], .pointer (some ⟨q, 0, none⟩)] w fun e w' => e = .returned (.bool (snB t y)) ∧ Below w.heap.size w w' := by
  have hl1 := World.block_lt_of_cell? w _ h0
  simp only at hl1
  have l1 : q < w.heap.size + 1 := by omega
  by_cases g1 : y.start = t.start
  · have d1 : (y.start == t.start) = true := by simpa using g1
    have E := Lib.hid (show (y.note == t.note) = snB t y by unfold snB; rw [decide_eq_true g1]; simp [Bool.beq_eq_decide_eq])
    clear g1
    go_enter Try.func79, Try.ntmps79
    go_wp2
    go_ret
    refine ⟨ret_bool E.out, ?_⟩
    (repeat (first | with_reducible exact Below.refl _ _ | with_reducible exact hbw | (with_reducible refine Below.setCell ?_ ?_ _; rotate_left; · first | exact Nat.le_refl _ | omega | (simp; done) | (simp; omega)) | (with_reducible refine Below.alloc ?_ ?_ _; rotate_left; · first | exact Nat.le_refl _ | omega | (simp; done) | (simp; omega)) | with_reducible refine below_drewN ?_ _ | with_reducible refine Below.drew ?_))
  · have d1 : (y.start == t.start) = false := by simpa using g1
    have E := Lib.hid (show false = snB t y by unfold snB; rw [decide_eq_false g1]; rfl)
    clear g1
    go_enter Try.func79, Try.ntmps79
    go_wp2
    go_ret
    refine ⟨ret_bool E.out, ?_⟩
    (repeat (first | with_reducible exact Below.refl _ _ | with_reducible exact hbw | (with_reducible refine Below.setCell ?_ ?_ _; rotate_left; · first | exact Nat.le_refl _ | omega | (simp; done) | (simp; omega)) | (with_reducible refine Below.alloc ?_ ?_ _; rotate_left; · first | exact Nat.le_refl _ | omega | (simp; done) | (simp; omega)) | with_reducible refine below_drewN ?_ _ | with_reducible refine Below.drew ?_))

theorem sizeT_any (a : Option Addr) (n c : Nat) (w : World) : Calls Try.prog 80 #[.slice a n c] w fun e w' => e = .returned (.int .i64 n) ∧ w' = w := by
  go_enter Try.func80, Try.ntmps80
  go_wp2
  go_ret
  exact ⟨rfl, rfl⟩

set_option maxHeartbeats 4000000 in
theorem arrange_any (vt lv v : Value) (x : TunD) (ns : List Int) (b : Int) (w : World) (h : Tun w vt lv x) (hn : Ints w v ns) (ok : validTunB x = true) (hset : SetIn ns) (hs : shiftIn b) (hnm : x.name.size ≤ maxLen) :
    Calls Try.prog 45 #[vt, v, .int .i64 b] w fun e w' => ∃ v', e = .returned (.tuple #[v', .int .i64 (mvCnt (arTo ns b x.tones x.tones.length).2 (arTo ns b x.tones x.tones.length).1.length), .int .i64 ((x.tones.length : Int) - (arTo ns b x.tones x.tones.length).1.length)]) ∧ OwnTun w.heap.size w'.heap.size w' v' (toV x.name (arTo ns b x.tones x.tones.length).1) ∧ Below w.heap.size w w' := by
  obtain ⟨rfl, hlv⟩ := h
  obtain ⟨a, ca, rfl, hca, hcm, _⟩ := id hlv
  obtain ⟨a9, c9, rfl, _, _, _⟩ := id hn
  clear hca hcm
  have hln := tun_len ok
  have OK := Lib.hid ok
  have HSET := Lib.hid hset
  have AOK := Lib.hid (fun k => ar_ok (b := b) hset (ts := x.tones) (fun y hy => by obtain ⟨k, hk, rfl⟩ := List.getElem_of_mem hy; exact tun_tone ok hk) k)
  obtain ⟨sb1, sb2⟩ := hs
  clear ok hset
  go_enter Try.func45, Try.ntmps45
  go_wp2_with fail
  obtain ⟨w2, hw2⟩ : ∃ w2 : World, w2 = (w.alloc (.cells #[.string x.name, .slice a x.tones.length ca] 29)).alloc (.cells #[.string ⟨#[]⟩, .slice none 0 0] 29) := ⟨_, rfl⟩
  rw [← hw2]
  have HB2 := Lib.hid (show Below w.heap.size w w2 by rw [hw2]; (repeat (first | with_reducible exact Below.refl _ _ | with_reducible exact hbw | (with_reducible refine Below.setCell ?_ ?_ _; rotate_left; · first | exact Nat.le_refl _ | omega | (simp; done) | (simp; omega)) | (with_reducible refine Below.alloc ?_ ?_ _; rotate_left; · first | exact Nat.le_refl _ | omega | (simp; done) | (simp; omega)) | with_reducible refine below_drewN ?_ _ | with_reducible refine Below.drew ?_)))
  have hz2 : w2.heap.size = w.heap.size + 2 := by rw [hw2]; simp
  have Z0 := Lib.hid (show w2.cell? ⟨w.heap.size, 0, none⟩ = some (.string x.name) by rw [hw2]; simp [go_sem])
  have Z1 := Lib.hid (show w2.cell? ⟨w.heap.size, 1, none⟩ = some (.slice a x.tones.length ca) by rw [hw2]; simp [go_sem])
  have R0 := Lib.hid (show w2.cell? ⟨w.heap.size + 1, 0, none⟩ = some (.string ⟨#[]⟩) by rw [hw2]; simp [go_sem])
  have R1 := Lib.hid (show w2.cell? ⟨w.heap.size + 1, 1, none⟩ = some (.slice none 0 0) by rw [hw2]; simp [go_sem])
  have F0 := Lib.hid (show w2.frozen? ⟨w.heap.size + 1, 0, none⟩ = false by rw [hw2]; simp [go_sem])
  have F1 := Lib.hid (show w2.frozen? ⟨w.heap.size + 1, 1, none⟩ = false by rw [hw2]; simp [go_sem])
  clear hw2
  have HZ2 := Lib.hid hz2
  have hz2' : w.heap.size + 1 < w2.heap.size := by omega
  clear hz2
  go_loopw [9, 10, 26, 12, 13, 14, 15, 16] (fun ts ms i _ _ _ _ _ wr => ∃ (k n : Nat) (a1 : Option Addr) (c1 : Nat) (a2 : Option Addr) (c2 : Nat), k ≤ x.tones.length ∧ i = .int .i64 (k : Int) ∧ ts = .slice a1 n c1 ∧ ms = .slice a2 n c2 ∧ n = (arTo ns b x.tones k).1.length ∧ Kept wr w2.heap.size (.slice a1 n c1) (.slice a2 n c2) n (arTo ns b x.tones k) ∧ Below w2.heap.size w2 wr) (fun _ _ i _ _ _ _ _ _ => x.tones.length - (intOf i).toNat)
  case atStart => exact ⟨0, 0, none, 0, none, 0, Nat.zero_le _, by go_num, rfl, rfl, rfl, ⟨rfl, rfl, by simpa [arTo] using owns_nil w2 92 3 _, by simpa [arTo] using owns_nil w2 4 1 _, .inl rfl⟩, Below.refl _ _⟩
  case round =>
    obtain ⟨k, n, a1, c1, a2, c2, hk, rfl, rfl, rfl, hnn, hK, hb⟩ := hrel
    have HK := Lib.hid hK; have HN := Lib.hid hnn; have HBr := Lib.hid hb
    have hzr := hb.size
    have hle := (AOK.out k).le
    rw [← hnn] at hle
    clear hK hnn
    by_cases hlt : k < x.tones.length
    · have hb0 := HB2.out.trans (hb.mono HB2.out.size)
      obtain ⟨b1, o1, rfl, hB1, t0, t1, t2⟩ := (hlv.mono hb0).at hlt
      have hok := tun_tone OK.out hlt
      obtain ⟨n1, n2⟩ := hok.noteIn
      have w1' : IntKind.i64.wrap (x.tones[k].note + b) = x.tones[k].note + b := IntWalk.i64_in _ (by omega)
      have HNI := Lib.hid (Ints.mono hn hb0)
      have HAT := Lib.hid (arTo_at (ns := ns) (b := b) hlt)
      obtain ⟨pl, hpl⟩ : ∃ pl, pl = placeV ns (x.tones[k].note + b) := ⟨_, rfl⟩
      have HPL := Lib.hid hpl
      have HLV := Lib.hid hlv
      clear hb hb0 hok
      by_cases gp : pl < 0
      · have d1 : decide (pl < 0) = true := by simpa using gp
        have HX := Lib.hid (show arTo ns b x.tones (k + 1) = arTo ns b x.tones k by rw [HAT.out]; exact ar_drop (by rw [← hpl]; exact gp))
        clear hpl gp
        go_wp2_with fail
        refine (placeNote_any _ ns (x.tones[k].note + b) _ (Ints.mono HNI.out (by (repeat (first | with_reducible exact Below.refl _ _ | with_reducible exact hbw | (with_reducible refine Below.setCell ?_ ?_ _; rotate_left; · first | exact Nat.le_refl _ | omega | (simp; done) | (simp; omega)) | (with_reducible refine Below.alloc ?_ ?_ _; rotate_left; · first | exact Nat.le_refl _ | omega | (simp; done) | (simp; omega)) | with_reducible refine below_drewN ?_ _ | with_reducible refine Below.drew ?_)))) HSET.out (by omega) (by omega)).mono ?_
        rw [← HPL.out]
        rintro e w3 ⟨rfl, hb3⟩
        have t0' : w3.cell? ⟨wr.heap.size, 0, none⟩ = some (.int .i64 x.tones[k].note) := cellB hb3 (by simp [go_sem])
        have t1' : w3.cell? ⟨wr.heap.size, 1, none⟩ = some (.int .i64 x.tones[k].start) := cellB hb3 (by simp [go_sem])
        have t2' : w3.cell? ⟨wr.heap.size, 2, none⟩ = some (.int .i64 x.tones[k].len) := cellB hb3 (by simp [go_sem])
        have hst3 : Below wr.heap.size wr w3 := Below.trans (by (repeat (first | with_reducible exact Below.refl _ _ | with_reducible exact hbw | (with_reducible refine Below.setCell ?_ ?_ _; rotate_left; · first | exact Nat.le_refl _ | omega | (simp; done) | (simp; omega)) | (with_reducible refine Below.alloc ?_ ?_ _; rotate_left; · first | exact Nat.le_refl _ | omega | (simp; done) | (simp; omega)) | with_reducible refine below_drewN ?_ _ | with_reducible refine Below.drew ?_))) (hb3.mono (by simp <;> omega))
        have hz3 : wr.heap.size < w3.heap.size := by have := hb3.size; simp at this; omega
        have HB3 := Lib.hid (HBr.out.trans (hst3.mono hzr))
        have HK3 := Lib.hid (HK.out.mono hst3)
        clear hb3 hst3
        go_wp2
        go_roundw
        case rel => exact ⟨k + 1, n, a1, c1, a2, c2, by omega, by go_num, rfl, rfl, by rw [HX.out]; exact HN.out, by rw [HX.out]; exact HK3.out, HB3.out⟩
        case measure => simp [intOf] <;> omega
      · have d1 : decide (pl < 0) = false := by simpa using gp
        have GP := Lib.hid (show ¬ placeV ns (x.tones[k].note + b) < 0 by rw [← hpl]; exact gp)
        clear hpl gp
        go_wp2_with fail
        refine (placeNote_any _ ns (x.tones[k].note + b) _ (Ints.mono HNI.out (by (repeat (first | with_reducible exact Below.refl _ _ | with_reducible exact hbw | (with_reducible refine Below.setCell ?_ ?_ _; rotate_left; · first | exact Nat.le_refl _ | omega | (simp; done) | (simp; omega)) | (with_reducible refine Below.alloc ?_ ?_ _; rotate_left; · first | exact Nat.le_refl _ | omega | (simp; done) | (simp; omega)) | with_reducible refine below_drewN ?_ _ | with_reducible refine Below.drew ?_)))) HSET.out (by omega) (by omega)).mono ?_
        rw [← HPL.out]
        rintro e w3 ⟨rfl, hb3⟩
        have t0' : w3.cell? ⟨wr.heap.size, 0, none⟩ = some (.int .i64 x.tones[k].note) := cellB hb3 (by simp [go_sem])
        have t1' : w3.cell? ⟨wr.heap.size, 1, none⟩ = some (.int .i64 x.tones[k].start) := cellB hb3 (by simp [go_sem])
        have t2' : w3.cell? ⟨wr.heap.size, 2, none⟩ = some (.int .i64 x.tones[k].len) := cellB hb3 (by simp [go_sem])
        have hst3 : Below wr.heap.size wr w3 := Below.trans (by (repeat (first | with_reducible exact Below.refl _ _ | with_reducible exact hbw | (with_reducible refine Below.setCell ?_ ?_ _; rotate_left; · first | exact Nat.le_refl _ | omega | (simp; done) | (simp; omega)) | (with_reducible refine Below.alloc ?_ ?_ _; rotate_left; · first | exact Nat.le_refl _ | omega | (simp; done) | (simp; omega)) | with_reducible refine below_drewN ?_ _ | with_reducible refine Below.drew ?_))) (hb3.mono (by simp <;> omega))
        have hz3 : wr.heap.size < w3.heap.size := by have := hb3.size; simp at this; omega
        have HB3 := Lib.hid (HBr.out.trans (hst3.mono hzr))
        have HK3 := Lib.hid (HK.out.mono hst3)
        clear hb3 hst3
        have n0 : ∀ o y, (ext w3 none y).cell? ⟨wr.heap.size, o, none⟩ = w3.cell? ⟨wr.heap.size, o, none⟩ := fun o y => cell?_ext (w := w3) hz3 (by simp)
        go_wp2_with fail
        refine wp_region_ord [(0, true), (1, true), (2, true), (3, true), (4, true), (5, true), (6, true), (7, true), (8, true), (9, true), (10, true), (11, true), (12, false), (13, false), (14, true)] (none) (by kernel_rfl) (by kernel_rfl) ?_
        (repeat (with_reducible refine wpOrd_soft (fun K hK => ?_); simp only [List.getElem?_toArray, List.getElem?_cons_zero, List.getElem?_cons_succ]; first | (go_simp; refine hK _ ?_) | (simp only [undef]; go_simp; refine hK _ ?_); clear hK K))
        (with_reducible refine wpOrd_hard ?_; simp only [List.getElem?_toArray, List.getElem?_cons_zero, List.getElem?_cons_succ])
        go_wp2_with fail
        refine ⟨grown_of_below (by (repeat (first | with_reducible exact Below.refl _ _ | with_reducible exact hbw | (with_reducible refine Below.setCell ?_ ?_ _; rotate_left; · first | exact Nat.le_refl _ | omega | (simp; done) | (simp; omega)) | (with_reducible refine Below.alloc ?_ ?_ _; rotate_left; · first | exact Nat.le_refl _ | omega | (simp; done) | (simp; omega)) | with_reducible refine below_drewN ?_ _ | with_reducible refine Below.drew ?_))), ?_⟩
        (with_reducible refine wpOrd_hard ?_; simp only [List.getElem?_toArray, List.getElem?_cons_zero, List.getElem?_cons_succ])
        go_wp2_with fail
        refine ⟨grown_of_below (by (repeat (first | with_reducible exact Below.refl _ _ | with_reducible exact hbw | (with_reducible refine Below.setCell ?_ ?_ _; rotate_left; · first | exact Nat.le_refl _ | omega | (simp; done) | (simp; omega)) | (with_reducible refine Below.alloc ?_ ?_ _; rotate_left; · first | exact Nat.le_refl _ | omega | (simp; done) | (simp; omega)) | with_reducible refine below_drewN ?_ _ | with_reducible refine Below.drew ?_))), ?_⟩
        (repeat (with_reducible refine wpOrd_soft (fun K hK => ?_); simp only [List.getElem?_toArray, List.getElem?_cons_zero, List.getElem?_cons_succ]; first | (go_simp; refine hK _ ?_) | (simp only [undef]; go_simp; refine hK _ ?_); clear hK K))
        (with_reducible refine wpOrd_nil ?_); refine NoPanic.normal ?_
        obtain ⟨w4, hw4⟩ : ∃ w4 : World, w4 = (w3.alloc (.cells #[.int .i64 pl, .int .i64 x.tones[k].start, .int .i64 x.tones[k].len] 92)).drew := ⟨_, rfl⟩
        rw [← hw4]
        have hst4 : Below w3.heap.size w3 w4 := by rw [hw4]; (repeat (first | with_reducible exact Below.refl _ _ | with_reducible exact hbw | (with_reducible refine Below.setCell ?_ ?_ _; rotate_left; · first | exact Nat.le_refl _ | omega | (simp; done) | (simp; omega)) | (with_reducible refine Below.alloc ?_ ?_ _; rotate_left; · first | exact Nat.le_refl _ | omega | (simp; done) | (simp; omega)) | with_reducible refine below_drewN ?_ _ | with_reducible refine Below.drew ?_))
        have u0 : w4.cell? ⟨w3.heap.size, 0, none⟩ = some (.int .i64 pl) := by rw [hw4]; simp [go_sem]
        have u1 : w4.cell? ⟨w3.heap.size, 1, none⟩ = some (.int .i64 x.tones[k].start) := by rw [hw4]; simp [go_sem]
        have u2 : w4.cell? ⟨w3.heap.size, 2, none⟩ = some (.int .i64 x.tones[k].len) := by rw [hw4]; simp [go_sem]
        have HZ4 := Lib.hid (show w4.heap.size = w3.heap.size + 1 by rw [hw4]; simp)
        have hz4 : w3.heap.size < w4.heap.size := by have := HZ4.out; omega
        have HT := Lib.hid (show arTon ns b x.tones[k] = ⟨pl, x.tones[k].start, x.tones[k].len⟩ by unfold arTon; rw [HPL.out])
        have HM := Lib.hid (show arMv ns b x.tones[k] = (pl != x.tones[k].note + b) by unfold arMv; rw [HPL.out])
        have HK4 := Lib.hid (HK3.out.mono hst4)
        have HB4 := Lib.hid (HB3.out.trans (hst4.mono HB3.out.size))
        clear hw4 hst4 n0 t0' t1' t2' w1'
        obtain ⟨m, hm⟩ : ∃ m : Bool, m = (pl != x.tones[k].note + b) := ⟨_, rfl⟩
        have HMM := Lib.hid hm
        rw [← hm]
        clear hm
        go_wp2_with fail
        refine (idxF1_any 79 (.pointer (some ⟨w3.heap.size, 0, none⟩)) (snB (arTon ns b x.tones[k])) _ (arTo ns b x.tones k).1 _ HK4.out.tons enters_arr (fun j hj w5 hb5 => arr1_any (arTon ns b x.tones[k]) (arTo ns b x.tones k).1[j] _ w5 (by rw [HT.out]; exact cellB hb5 u0) (by rw [HT.out]; exact cellB hb5 u1))).mono ?_
        rintro e w5 ⟨r, rfl, hr, hb5⟩
        have u0 := cellB hb5 u0
        have u1 := cellB hb5 u1
        have u2 := cellB hb5 u2
        have hz5 : w3.heap.size < w5.heap.size := by have := hb5.size; omega
        have HK5 := Lib.hid (HK4.out.mono hb5)
        have HB5 := Lib.hid (HB4.out.trans (hb5.mono HB4.out.size))
        have hzz := HB5.out.size
        clear hb5
        rcases hr with ⟨rfl, hr⟩ | ⟨j, hj, rfl, hr1, hr2⟩
        · have HX := Lib.hid (show arTo ns b x.tones (k + 1) = ((arTo ns b x.tones k).1 ++ [⟨pl, x.tones[k].start, x.tones[k].len⟩], (arTo ns b x.tones k).2 ++ [m]) by rw [HAT.out, ar_new (by have := GP.out; omega) hr, HT.out, HM.out, HMM.out])
          clear hr
          go_wp2_with (at_builtin; refine append_one_at rfl _ _ 27 rfl w2.heap.size 92 _ 3 24 Try.underlying27 info_Tone rfl (by decide) _ n _ rfl HK5.out.r1 [.int .i64 pl, .int .i64 x.tones[k].start, .int .i64 x.tones[k].len] rfl (by simp [Value.oneCell']) w5.heap.size rfl rfl (by omega) (by decide) hzz ?_)
          intro a5 e5 w6 ho6 hg6 hb6 hn6
          have hz6 := hb6.size
          have HO6 := Lib.hid ho6
          have HD6 := Lib.hid (Apt.keep HK5.out.ap HK5.out.r2 hg6)
          have HP6 := Lib.hid ((Apt.next HK5.out.ap hn6 (fun q hq => (HK5.out.r2.lt q hq).2)).symm)
          have HB6 := Lib.hid (HB5.out.trans hb6)
          clear ho6 hg6 hn6 hb6
          go_wp2_with (at_builtin; refine append_one_at rfl _ _ 96 rfl w2.heap.size 4 (.bool false) 1 1 Try.underlying96 info_bool rfl (by decide) _ n _ rfl HD6.out [.bool m] rfl (by simp [Value.oneCell']) w6.heap.size rfl rfl (by omega) (by decide) (by omega) ?_)
          intro a6 e6 w7 ho7 hg7 hb7 hn7
          have HKN := Lib.hid (show Kept w7 w2.heap.size (.slice a5 (n + 1) e5) (.slice a6 (n + 1) e6) (n + 1) (arTo ns b x.tones (k + 1)) from by
            rw [HX.out]
            exact ⟨by rw [List.length_append, HK5.out.len1]; rfl, by rw [List.length_append, HK5.out.len2]; rfl, by rw [List.flatMap_append]; exact Apt.keep HP6.out HO6.out hg7, by rw [List.map_append]; exact ho7, (Apt.next HP6.out hn7 (fun q hq => (HO6.out.lt q hq).2)).symm⟩)
          have HB7 := Lib.hid (HB6.out.trans hb7)
          have HLN := Lib.hid (show n + 1 = (arTo ns b x.tones (k + 1)).1.length by rw [HX.out, List.length_append, HN.out]; rfl)
          clear ho7 hg7 hn7 hb7
          go_wp2
          go_roundw
          case rel => exact ⟨k + 1, n + 1, a5, e5, a6, e6, by omega, by go_num, rfl, rfl, HLN.out, HKN.out, HB7.out⟩
          case measure => simp [intOf] <;> omega
        · have hjn : j < n := by rw [HN.out]; exact hj
          obtain ⟨g1, g2, rfl, rfl, gne, gb1, gb2, gl1, gl2, ⟨_, v0, v1, v2⟩, z0, fz1, fz2, hst⟩ := HK5.out.at hjn
          have HST := Lib.hid (fun X M => hst X M)
          have n0 : ∀ o y, (ext w5 none y).cell? ⟨w3.heap.size, o, none⟩ = w5.cell? ⟨w3.heap.size, o, none⟩ := fun o y => cell?_ext (w := w5) hz5 (by simp)
          have n1 : ∀ o y, (ext w5 none y).cell? ⟨g1, o, none⟩ = w5.cell? ⟨g1, o, none⟩ := fun o y => cell?_ext (w := w5) gl1 (by simp)
          have p0 := fz1 (j * 3)
          have p1 := fz1 (j * 3 + 1)
          have p2 := fz1 (j * 3 + 2)
          have p3 := fz2 j
          have j0 : ¬ (j : Int) < 0 := by omega
          have j1 : (j : Int) < (n : Int) := by omega
          have j2 : (0 : Int) ≤ (j : Int) := by omega
          have gn2 : ¬ g2 = g1 := fun e => gne e.symm
          have gq1 : ¬ g1 = w3.heap.size := by have := (HK3.out.r1.lt g1 rfl).2; omega
          clear hst fz1 fz2
          by_cases gl : (arTo ns b x.tones k).1[j].len < x.tones[k].len
          · have d3 : decide ((arTo ns b x.tones k).1[j].len < x.tones[k].len) = true := by simpa using gl
            have HX := Lib.hid (show arTo ns b x.tones (k + 1) = ((arTo ns b x.tones k).1.set j ⟨pl, x.tones[k].start, x.tones[k].len⟩, (arTo ns b x.tones k).2.set j m) by rw [HAT.out, ar_set (by have := GP.out; omega) hj hr1 hr2 gl, HT.out, HM.out, HMM.out])
            clear gl hr1 hr2
            go_wp2_with fail
            refine wp_region_ord [(0, true), (1, true), (2, true), (3, true), (4, true), (5, true), (6, true), (7, true), (8, true)] (none) (by kernel_rfl) (by kernel_rfl) ?_
            (repeat (with_reducible refine wpOrd_soft (fun K hK => ?_); simp only [List.getElem?_toArray, List.getElem?_cons_zero, List.getElem?_cons_succ]; first | (go_simp; refine hK _ ?_) | (simp only [undef]; go_simp; refine hK _ ?_); clear hK K))
            (with_reducible refine wpOrd_nil ?_); refine NoPanic.normal ?_
            go_wp2
            go_roundw
            case rel => exact ⟨k + 1, n, _, c1, _, c2, by omega, by go_num, rfl, rfl, by rw [HX.out, List.length_set]; exact HN.out, by rw [HX.out]; exact (HST.out ⟨pl, x.tones[k].start, x.tones[k].len⟩ m).mono (by (repeat (first | with_reducible exact Below.refl _ _ | with_reducible exact hbw | (with_reducible refine Below.setCell ?_ ?_ _; rotate_left; · first | exact Nat.le_refl _ | omega | (simp; done) | (simp; omega)) | (with_reducible refine Below.alloc ?_ ?_ _; rotate_left; · first | exact Nat.le_refl _ | omega | (simp; done) | (simp; omega)) | with_reducible refine below_drewN ?_ _ | with_reducible refine Below.drew ?_))), by have hbw := HB5.out; (repeat (first | with_reducible exact Below.refl _ _ | with_reducible exact hbw | (with_reducible refine Below.setCell ?_ ?_ _; rotate_left; · first | exact Nat.le_refl _ | omega | (simp; done) | (simp; omega)) | (with_reducible refine Below.alloc ?_ ?_ _; rotate_left; · first | exact Nat.le_refl _ | omega | (simp; done) | (simp; omega)) | with_reducible refine below_drewN ?_ _ | with_reducible refine Below.drew ?_))⟩
            case measure => simp [intOf] <;> omega
          · have d3 : decide ((arTo ns b x.tones k).1[j].len < x.tones[k].len) = false := by simpa using gl
            have HX := Lib.hid (show arTo ns b x.tones (k + 1) = arTo ns b x.tones k by rw [HAT.out, ar_keep (by have := GP.out; omega) hj hr1 hr2 gl])
            clear gl hr1 hr2
            go_wp2_with fail
            refine wp_region_ord [(0, true), (1, true), (2, true), (3, true), (4, true), (5, true), (6, true), (7, true), (8, true)] (none) (by kernel_rfl) (by kernel_rfl) ?_
            (repeat (with_reducible refine wpOrd_soft (fun K hK => ?_); simp only [List.getElem?_toArray, List.getElem?_cons_zero, List.getElem?_cons_succ]; first | (go_simp; refine hK _ ?_) | (simp only [undef]; go_simp; refine hK _ ?_); clear hK K))
            (with_reducible refine wpOrd_nil ?_); refine NoPanic.normal ?_
            go_wp2
            go_roundw
            case rel => exact ⟨k + 1, n, _, c1, _, c2, by omega, by go_num, rfl, rfl, by rw [HX.out]; exact HN.out, by rw [HX.out]; exact HK5.out.mono (by (repeat (first | with_reducible exact Below.refl _ _ | with_reducible exact hbw | (with_reducible refine Below.setCell ?_ ?_ _; rotate_left; · first | exact Nat.le_refl _ | omega | (simp; done) | (simp; omega)) | (with_reducible refine Below.alloc ?_ ?_ _; rotate_left; · first | exact Nat.le_refl _ | omega | (simp; done) | (simp; omega)) | with_reducible refine below_drewN ?_ _ | with_reducible refine Below.drew ?_))), by have hbw := HB5.out; (repeat (first | with_reducible exact Below.refl _ _ | with_reducible exact hbw | (with_reducible refine Below.setCell ?_ ?_ _; rotate_left; · first | exact Nat.le_refl _ | omega | (simp; done) | (simp; omega)) | (with_reducible refine Below.alloc ?_ ?_ _; rotate_left; · first | exact Nat.le_refl _ | omega | (simp; done) | (simp; omega)) | with_reducible refine below_drewN ?_ _ | with_reducible refine Below.drew ?_))⟩
            case measure => simp [intOf] <;> omega
    · obtain rfl : k = x.tones.length := by omega
      obtain ⟨wo, hwo⟩ : ∃ wo : World, wo = wr := ⟨_, rfl⟩
      subst hwo
      have l2 := HK.out.len2
      have z0 := cellL HBr.out (by simp; omega) Z0.out
      have z1 := cellL HBr.out (by simp; omega) Z1.out
      have r0 := cellL HBr.out (by simp; omega) R0.out
      have r1 := cellL HBr.out (by simp; omega) R1.out
      have f0 := frozenL HBr.out (by simp; omega) F0.out
      have f1 := frozenL HBr.out (by simp; omega) F1.out
      clear hb
      go_wp2_with fail
      go_loopw [17, 84, 19] (fun c i _ wr => ∃ k : Nat, k ≤ n ∧ i = .int .i64 (k : Int) ∧ c = .int .i64 (mvCnt (arTo ns b x.tones x.tones.length).2 k) ∧ wr = wo) (fun _ i _ _ => n - (intOf i).toNat)
      case atStart => exact ⟨0, Nat.zero_le _, by go_num, rfl, rfl⟩
      case round =>
        obtain ⟨k, hkn, rfl, rfl, rfl⟩ := hrel
        obtain ⟨m0, m1⟩ := mv_bd (arTo ns b x.tones x.tones.length).2 k
        have w1' : IntKind.i64.wrap (mvCnt (arTo ns b x.tones x.tones.length).2 k + 1) = mvCnt (arTo ns b x.tones x.tones.length).2 k + 1 := IntWalk.i64_in _ (by omega)
        by_cases hlt : k < n
        · obtain ⟨g1, g2, rfl, rfl, gne, gb1, gb2, gl1, gl2, _, y0, _, _, _⟩ := HK.out.at hlt
          cases gm : (arTo ns b x.tones x.tones.length).2.getD k false
          · rw [gm] at y0
            have HX := Lib.hid (mv_no gm); clear gm
            go_wp2
            go_roundw
            case rel => exact ⟨k + 1, by omega, by go_num, by rw [HX.out], by first | rfl | trivial⟩
            case measure => simp [intOf] <;> omega
          · rw [gm] at y0
            have HX := Lib.hid (mv_yes gm); clear gm
            go_wp2
            go_roundw
            case rel => exact ⟨k + 1, by omega, by go_num, by rw [HX.out], by first | rfl | trivial⟩
            case measure => simp [intOf] <;> omega
        · obtain rfl : k = n := by omega
          have w3' : IntKind.i64.wrap ((x.tones.length : Int) - (k : Int)) = (x.tones.length : Int) - (k : Int) := IntWalk.i64_in _ (by omega)
          go_wp2_with fail
          refine (sizeT_any _ _ _ _).mono ?_
          rintro e w8 ⟨rfl, hw8⟩
          subst w8
          go_wp2_with fail
          refine (sizeT_any _ _ _ _).mono ?_
          rintro e w8 ⟨rfl, hw8⟩
          subst w8
          have HOW := Lib.hid (OwnRow.mk' HK.out.r1)
          have hws := HBr.out.size
          go_wp2_with fail
          refine (tuneOf_any w2.heap.size k x.name _ (arTo ns b x.tones x.tones.length).1 _ HOW.out HK.out.len1 (by omega) hnm hws).mono ?_
          rintro e w9 ⟨v9, rfl, ho9, ht9⟩
          obtain ⟨lv9, rfl, ho9⟩ := ho9
          obtain ⟨a8, c8, rfl⟩ := ho9.form
          have z9 := ht9.size
          have r0 := cellT ht9 r0 (by simp only; omega)
          have r1 := cellT ht9 r1 (by simp only; omega)
          have f0 := touch_frozen ht9 (by simp only; omega) (by simp only; omega) f0
          have f1 := touch_frozen ht9 (by simp only; omega) (by simp only; omega) f1
          have l9 : w.heap.size + 1 < w9.heap.size := by omega
          have l10 : w.heap.size + 1 < w9.heap.size + 1 := by omega
          have HO9 := Lib.hid ho9
          have HB9 := Lib.hid (show Below w.heap.size w w9 from HB2.out.trans ((ht9.below HBr.out (Nat.le_refl _) hws).mono HB2.out.size))
          have HN9 := Lib.hid (show (arTo ns b x.tones x.tones.length).1.length = k from HN.out.symm)
          clear ho9 ht9
          go_wp2
          refine bodyPost_ret (v := .tuple #[.agg #[.string (toV x.name (arTo ns b x.tones x.tones.length).1).name, .slice a8 (toV x.name (arTo ns b x.tones x.tones.length).1).tones.length c8], .int .i64 (mvCnt (arTo ns b x.tones x.tones.length).2 k), .int .i64 ((x.tones.length : Int) - k)]) (by simp [results, Try.results45, go_sem, l9, l10, r0, r1]) rfl ⟨_, by rw [HN9.out], ⟨_, rfl, ?_⟩, ?_⟩
          · have hz2 := HZ2.out
            refine (HO9.out.touch (B' := w.heap.size + 1) (E' := w.heap.size + 2) ?_ (Or.inr (by omega))).wide (by omega) (by simp)
            have htc := Touch.refl (w.heap.size + 1) (w.heap.size + 2) w9
            (repeat (first | with_reducible exact Touch.refl _ _ _ | with_reducible exact htc | (with_reducible refine Touch.setCell ?_ ?_ _; rotate_left; · (simp only; omega)) | (with_reducible refine Touch.setNew ?_ ?_ _; rotate_left; · (first | (simp only; omega) | (simp; done) | (simp; omega))) | with_reducible refine Touch.alloc ?_ _ | with_reducible refine Touch.drewN ?_ _ | with_reducible refine Touch.drew ?_))
          · have hbw := HB9.out
            (repeat (first | with_reducible exact Below.refl _ _ | with_reducible exact hbw | (with_reducible refine Below.setCell ?_ ?_ _; rotate_left; · first | exact Nat.le_refl _ | omega | (simp; done) | (simp; omega)) | (with_reducible refine Below.alloc ?_ ?_ _; rotate_left; · first | exact Nat.le_refl _ | omega | (simp; done) | (simp; omega)) | with_reducible refine below_drewN ?_ _ | with_reducible refine Below.drew ?_))

end Go.Proofs.Ytemmnjokojgjaaa
