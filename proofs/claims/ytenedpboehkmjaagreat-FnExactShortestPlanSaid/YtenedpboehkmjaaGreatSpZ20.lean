import Derived.Test.YtenedpboehkmjaaGreatSpZ19
import Derived.Test.YtenedpboehkmjaaGreatSpZ3
import Derived.Test.YtenedpboehkmjaaGreatSpZ9
import Derived.Test.YtenedpboehkmjaaGreatSpZ2
import Derived.Test.YtenedpboehkmjaaGreatSpZ8
import Derived.Deep.QuietTactic
import Derived.BigQuiet
/- The laws' helpers over models, profiles, goals and cuts, in the form that a law's walk takes. -/
set_option linter.unusedSimpArgs false
set_option linter.unnecessarySimpa false
set_option linter.unusedVariables false
set_option maxRecDepth 100000
namespace Go.Proofs.YtenedpboehkmjaaGreat
open Go.RowKit

def szPrf (x : PrfD) : Nat := x.name.size + x.rings.length
def okPrf (x : PrfD) : Prop := x.ok
theorem szPrfY (v : Value) (x : PrfD) (left : Int) (w : World) (h : RdPrf w v x) (ok : okPrf x) (h0 : 0 ≤ left) (hl : left ≤ 1048576) (hs : szPrf x ≤ left) :
    Calls Tryz.prog 5 #[v, .int .i64 left] w fun e w' => e = .returned (.int .i64 (left - szPrf x)) ∧ Below w.heap.size w w' := by
  obtain ⟨lv, h⟩ := h
  refine (szPrf_any v lv x left w h ok.1 h0 hl).mono fun e w' ⟨he, hb⟩ => ⟨by rw [he]; unfold leftPrf szPrf at *; rw [if_neg (by omega)]; congr 2; omega, hb⟩
theorem szPrfN (v : Value) (x : PrfD) (left : Int) (w : World) (h : RdPrf w v x) (ok : okPrf x) (h0 : 0 ≤ left) (hl : left ≤ 1048576) (hs : left < szPrf x) :
    Calls Tryz.prog 5 #[v, .int .i64 left] w fun e w' => e = .returned (.int .i64 (-1)) ∧ Below w.heap.size w w' := by
  obtain ⟨lv, h⟩ := h
  refine (szPrf_any v lv x left w h ok.1 h0 hl).mono fun e w' ⟨he, hb⟩ => ⟨by rw [he]; unfold leftPrf szPrf at *; rw [if_pos (by omega)], hb⟩
theorem szModDY (v : Value) (x : ModD) (left : Int) (w : World) (h : RdModD w v x) (ok : okModD x) (h0 : 0 ≤ left) (hl : left ≤ 1048576) (hs : szModD x ≤ left) :
    Calls Tryz.prog 4 #[v, .int .i64 left] w fun e w' => e = .returned (.int .i64 (left - szModD x)) ∧ Below w.heap.size w w' :=
  (szModD_any v x left w h ok h0 hl).mono fun e w' ⟨he, hb⟩ => ⟨by rw [he]; unfold leftModD; rw [if_neg (by omega)], hb⟩
theorem szModDN (v : Value) (x : ModD) (left : Int) (w : World) (h : RdModD w v x) (ok : okModD x) (h0 : 0 ≤ left) (hl : left ≤ 1048576) (hs : left < szModD x) :
    Calls Tryz.prog 4 #[v, .int .i64 left] w fun e w' => e = .returned (.int .i64 (-1)) ∧ Below w.heap.size w w' :=
  (szModD_any v x left w h ok h0 hl).mono fun e w' ⟨he, hb⟩ => ⟨by rw [he]; unfold leftModD; rw [if_pos (by omega)], hb⟩

def RdGoal (w : World) (v : Value) (x : GoalD) : Prop := v = x.val
def okGoal (x : GoalD) : Prop := True
def szGoal (x : GoalD) : Nat := 0
theorem RdGoal.mono {w w' : World} {v : Value} {x : GoalD} (h : RdGoal w v x) (hb : Below w.heap.size w w') : RdGoal w' v x := h
theorem toGoalR (v : Value) (x : GoalD) (w : World) (h : RdGoal w v x) : Calls Tryz.prog 9 #[v] w fun e w' => e = .returned x.val ∧ Below w.heap.size w w' :=
  (toGoalK v x w h).mono fun e w' ⟨v', he, hv, hb⟩ => ⟨by rw [he, hv], hb⟩

def MkCutDs (B E : Nat) (w : World) (v : Value) (xs : List CutD) (k : Int) : Prop := OwnRow B E w 84 2 v xs.length (marksI k (xs.length * 2))
section
variable {B E B' E' : Nat} {w w' : World} {v : Value} {xs : List CutD} {k : Int}
theorem OwnCutDs.mono (h : OwnCutDs B E w v xs) (hb : Below w.heap.size w w') : OwnCutDs B E w' v xs := OwnRow.mono h hb
theorem OwnCutDs.touch (h : OwnCutDs B E w v xs) (t : Touch B' E' w w') (hd : E ≤ B' ∨ E' ≤ B) : OwnCutDs B E w' v xs := OwnRow.touch h t hd
theorem OwnCutDs.rd (h : OwnCutDs B E w v xs) : CutDs w v xs := OwnRow.sl h
theorem OwnCutDs.form (h : OwnCutDs B E w v xs) : ∃ a cap, v = .slice a xs.length cap := OwnRow.form h
theorem OwnCutDs.wide (h : OwnCutDs B E w v xs) (hB : B' ≤ B) (hE : E ≤ E') : OwnCutDs B' E' w v xs := OwnRow.wide h hB hE
theorem MkCutDs.mono (h : MkCutDs B E w v xs k) (hb : Below w.heap.size w w') : MkCutDs B E w' v xs k := OwnRow.mono h hb
theorem MkCutDs.touch (h : MkCutDs B E w v xs k) (t : Touch B' E' w w') (hd : E ≤ B' ∨ E' ≤ B) : MkCutDs B E w' v xs k := OwnRow.touch h t hd
end
theorem eqCutDsK (v1 v2 : Value) (xs : List CutD) (w : World) (h1 : CutDs w v1 xs) (h2 : CutDs w v2 xs) :
    Calls Tryz.prog 11 #[v1, v2] w fun e w' => e = .returned (.bool true) ∧ Below w.heap.size w w' :=
  (eqCutDs_any v1 v2 xs xs w h1 h2).mono fun e w' ⟨he, hb⟩ => ⟨by rw [he]; simp, hb⟩
theorem markCutDsK (B E : Nat) (v : Value) (xs : List CutD) (k : Int) (w : World) (h : OwnCutDs B E w v xs) (h0 : 0 ≤ k) (hk : k + xs.length * 2 ≤ 1000000000) :
    Calls Tryz.prog 16 #[v, .int .i64 k] w fun e w' => e = .returned (.int .i64 (k + xs.length * 2)) ∧ MkCutDs B E w' v xs k ∧ Touch B E w w' := by
  obtain ⟨j, rfl⟩ := Int.eq_ofNat_of_zero_le h0
  refine (markCutDs_any v xs.length B _ _ j w h.1 (by omega)).mono fun e w' ⟨he, ho, hg⟩ => ⟨by rw [he]; congr 2 <;> omega, ⟨by rw [marksI_nat]; exact ho, h.2⟩, Touch.of_grown hg fun k hk => ⟨(h.1.lt k hk).1, h.2 k hk⟩⟩
theorem heldCutDsK (B E : Nat) (v : Value) (xs : List CutD) (k : Int) (w : World) (h : MkCutDs B E w v xs k) (h0 : 0 ≤ k) (hk : k + xs.length * 2 ≤ 1000000000) :
    Calls Tryz.prog 17 #[v, .int .i64 k] w fun e w' => e = .returned (.int .i64 (k + xs.length * 2)) ∧ Below w.heap.size w w' := by
  obtain ⟨j, rfl⟩ := Int.eq_ofNat_of_zero_le h0
  refine (heldCutDs_any v xs.length j w (by rw [← marksI_nat]; exact OwnRow.sl h) (by omega)).mono fun e w' ⟨he, hb⟩ => ⟨by rw [he]; congr 2 <;> omega, by rw [hb]; exact Below.refl _ _⟩
/-- A step behind a draw is a step. -/
theorem undrewD {w w' : World} (h : Below w.drew.heap.size w.drew w') : Below w.heap.size w w' := undrew h
theorem rdGoal (w : World) (x : GoalD) : RdGoal w x.val x := rfl
theorem szPrf_bd {x : PrfD} (h : szPrf x ≤ 1048576) : x.rings.length ≤ 1048576 := by unfold szPrf at h; omega
theorem toPrfZ (v : Value) (x : PrfD) (w : World) (h : RdPrf w v x) (hs : szPrf x ≤ 1048576) :
    Calls Tryz.prog 8 #[v] w fun e w' => ∃ v', e = .returned v' ∧ OwnPrf w.heap.size w'.heap.size w' v' x ∧ Below w.heap.size w w' := toPrfK v x w h (szPrf_bd hs)
theorem RdPrf.form {w : World} {v : Value} {x : PrfD} (h : RdPrf w v x) : ∃ a cap, v = .agg #[.string x.name, .slice a x.rings.length cap] := by
  obtain ⟨lv, rfl, h⟩ := h
  obtain ⟨a, cap, rfl, _⟩ := h
  exact ⟨a, cap, rfl⟩
theorem RdModD.form2 {w : World} {v : Value} {x : ModD} (h : RdModD w v x) : ∃ (a : Option Addr × Option Addr × Option Addr) (c : Nat × Nat × Nat), v = .agg #[.slice a.1 x.zones.length c.1, .slice a.2.1 x.weights.length c.2.1, .slice a.2.2 x.base.length c.2.2] := by
  obtain ⟨z, g, b, rfl, h1, h2, h3⟩ := h
  obtain ⟨a1, c1, rfl, _⟩ := h1
  obtain ⟨a2, c2, rfl⟩ := h2.form
  obtain ⟨a3, c3, rfl, _⟩ := h3
  exact ⟨(a1, a2, a3), (c1, c2, c3), rfl⟩
theorem OwnModD.form2 {B E : Nat} {w : World} {v : Value} {x : ModD} (h : OwnModD B E w v x) : ∃ (a : Option Addr × Option Addr × Option Addr) (c : Nat × Nat × Nat), v = .agg #[.slice a.1 x.zones.length c.1, .slice a.2.1 x.weights.length c.2.1, .slice a.2.2 x.base.length c.2.2] := h.rd.form2
theorem sizeModD_bd {x : ModD} (h : szModD x ≤ 1048576) : sizeModD x ≤ 1048576 ∧ x.weights.length ≤ 1048576 := by
  unfold szModD szIntss at h
  unfold sizeModD sizeIntss
  omega
end Go.Proofs.YtenedpboehkmjaaGreat
/- How arguments that are models, profiles and goals are opened. -/
set_option linter.unusedSimpArgs false
set_option linter.unnecessarySimpa false
set_option linter.unusedVariables false
set_option maxRecDepth 100000
namespace Go.Proofs.YtenedpboehkmjaaGreat
open Go.ChangeShapes Go.WideShapes Go.ChangeAt Go.RowKit Go.Deep

section
variable {H : Type} {enc : TypeId × Value → H} {W : World} {base : Nat}
theorem cells_ring : Tryz.prog.cellsOf 98 = 3 := by kernel_rfl
theorem cells_prof : Tryz.prog.cellsOf 28 = 2 := by kernel_rfl
theorem cells_modl : Tryz.prog.cellsOf 25 = 3 := by kernel_rfl
theorem cells_snd : Tryz.prog.cellsOf 30 = 5 := by kernel_rfl
theorem cells_goal : Tryz.prog.cellsOf 32 = 7 := by kernel_rfl

theorem one_ring (n : Nat) (cs : List Value) (y : DataW H × List MemPlace) (h : DataW.trod enc Tryz.prog W 0 (fun _ => true) true n 98 cs = some y) :
    ∃ x : Rng, cs = x.cells ∧ (I64 x.outer ∧ I64 x.inner ∧ I64 x.height) := by
  obtain ⟨y0, y1, y2, m, _, hlen, h0, h1, h2⟩ := trod_struct3 Tryz.underlying98 h
  obtain ⟨n0, e0, _, w0⟩ := DataW.trod_int Tryz.underlying2 h0
  obtain ⟨n1, e1, _, w1⟩ := DataW.trod_int Tryz.underlying2 h1
  obtain ⟨n2, e2, _, w2⟩ := DataW.trod_int Tryz.underlying2 h2
  rw [cells_ring] at hlen
  obtain ⟨a, b, c, rfl⟩ := len3 _ hlen
  simp [cells_int] at e0 e1 e2
  subst e0 e1 e2
  exact ⟨⟨n0, n1, n2⟩, rfl, w0, w1, w2⟩
theorem open_arg_profile {v : Value} {d : DataW H} {p : List MemPlace} (hv : Value.okWide Tryz.prog W .any base 28 v) (h : DataW.Trod enc Tryz.prog W 0 (fun _ => true) true 28 v d p) :
    ∃ x : PrfD, RdPrf W v x ∧ okPrf x := by
  obtain ⟨c0, c1, y0, y1, m, rfl, _, _, h0, h1⟩ := Joins.open_agg2 Tryz.underlying28 (by kernel_rfl) cells_prof hv h
  obtain ⟨s, e0, _, w0⟩ := DataW.trod_string Tryz.underlying9 h0
  obtain ⟨xs, hx, hr⟩ := open_structs Rng.cells (fun x => I64 x.outer ∧ I64 x.inner ∧ I64 x.height) 3 (by omega) (fun _ => rfl) Tryz.underlying26 cells_ring one_ring h1
  simp only [List.cons.injEq, and_true] at e0
  subst e0
  exact ⟨⟨s, xs⟩, ⟨c1, rfl, hx⟩, w0, hr⟩
theorem open_arg_model {v : Value} {d : DataW H} {p : List MemPlace} (hv : Value.okWide Tryz.prog W .any base 25 v) (h : DataW.Trod enc Tryz.prog W 0 (fun _ => true) true 25 v d p) :
    ∃ x : ModD, RdModD W v x ∧ okModD x := by
  obtain ⟨c0, c1, c2, y0, y1, y2, m, rfl, _, _, h0, h1, h2⟩ := Joins.open_agg3 Tryz.underlying25 (by kernel_rfl) cells_modl hv h
  obtain ⟨⟨z, zs⟩, e0, hz, kz⟩ := one_ints _ _ _ h0
  obtain ⟨⟨b, bs⟩, e2, hb, kb⟩ := one_ints _ _ _ h2
  obtain ⟨a1, l1, k1, e1⟩ := Joins.slice_form Tryz.underlying23 h1
  obtain ⟨ys, hx, hr⟩ := open_structs (fun y : Value × List Int => [y.1]) (fun y => Ints W y.1 y.2 ∧ ∀ k ∈ y.2, I64 k) 1 (by omega) (fun _ => rfl) Tryz.underlying23 cells_ints one_ints h1
  rw [flat_one] at hx
  simp only [List.cons.injEq, and_true] at e0 e1 e2
  subst e0 e1 e2
  exact ⟨⟨zs, ys.map Prod.snd, bs⟩, ⟨_, _, _, rfl, hz, ⟨ys, rfl, hx, fun y hy => (hr y hy).1⟩, hb⟩, kz, fun x hx => by obtain ⟨y, hy, rfl⟩ := List.mem_map.1 hx; exact (hr y hy).2, kb⟩
theorem trod_struct5 {P : Program} {t : TypeId} {f0 f1 f2 f3 f4 : Field} {fuel : Nat} {cs : List Value} {x : DataW H × List MemPlace} (ht : P.underlying t = some (.struct #[f0, f1, f2, f3, f4])) (h : DataW.trod enc P W 0 (fun _ => true) true fuel t cs = some x) :
    ∃ (y0 y1 y2 y3 y4 : DataW H × List MemPlace) (n : Nat), cs.length = P.cellsOf t ∧ DataW.trod enc P W 0 (fun _ => true) true n f0.type ((cs.drop f0.offset).take (P.cellsOf f0.type)) = some y0 ∧
      DataW.trod enc P W 0 (fun _ => true) true n f1.type ((cs.drop f1.offset).take (P.cellsOf f1.type)) = some y1 ∧ DataW.trod enc P W 0 (fun _ => true) true n f2.type ((cs.drop f2.offset).take (P.cellsOf f2.type)) = some y2 ∧
      DataW.trod enc P W 0 (fun _ => true) true n f3.type ((cs.drop f3.offset).take (P.cellsOf f3.type)) = some y3 ∧ DataW.trod enc P W 0 (fun _ => true) true n f4.type ((cs.drop f4.offset).take (P.cellsOf f4.type)) = some y4 := by
  obtain ⟨xs, n, _, rfl, hl, hlen, hf⟩ := DataW.trod_struct ht h
  match xs, hlen with
  | [y0, y1, y2, y3, y4], _ => exact ⟨y0, y1, y2, y3, y4, n, hl, by simpa using hf 0 f0 rfl, by simpa using hf 1 f1 rfl, by simpa using hf 2 f2 rfl, by simpa using hf 3 f3 rfl, by simpa using hf 4 f4 rfl⟩
theorem array7 {cs : Array Value} (h : cs.size = 7) : ∃ a b c d e f g, cs = #[a, b, c, d, e, f, g] := by
  obtain ⟨l⟩ := cs
  match l, h with
  | [a, b, c, d, e, f, g], _ => exact ⟨a, b, c, d, e, f, g, rfl⟩
theorem one_snd (n : Nat) (a b c d e : Value) (y : DataW H × List MemPlace) (h : DataW.trod enc Tryz.prog W 0 (fun _ => true) true n 30 [a, b, c, d, e] = some y) :
    ∃ x : SndD, a = .int .i64 x.a ∧ b = .int .i64 x.b ∧ c = .int .i64 x.c ∧ d = .int .i64 x.d ∧ e = .int .i64 x.e := by
  obtain ⟨y0, y1, y2, y3, y4, m, hlen, h0, h1, h2, h3, h4⟩ := trod_struct5 Tryz.underlying30 h
  obtain ⟨n0, e0, _, w0⟩ := DataW.trod_int Tryz.underlying2 h0
  obtain ⟨n1, e1, _, w1⟩ := DataW.trod_int Tryz.underlying2 h1
  obtain ⟨n2, e2, _, w2⟩ := DataW.trod_int Tryz.underlying2 h2
  obtain ⟨n3, e3, _, w3⟩ := DataW.trod_int Tryz.underlying2 h3
  obtain ⟨n4, e4, _, w4⟩ := DataW.trod_int Tryz.underlying2 h4
  simp [cells_int] at e0 e1 e2 e3 e4
  exact ⟨⟨n0, n1, n2, n3, n4⟩, e0, e1, e2, e3, e4⟩
theorem open_arg_goal {v : Value} {d : DataW H} {p : List MemPlace} (hv : Value.okWide Tryz.prog W .any base 32 v) (h : DataW.Trod enc Tryz.prog W 0 (fun _ => true) true 32 v d p) :
    ∃ x : GoalD, RdGoal W v x ∧ okGoal x := by
  obtain ⟨cs, rfl, hsz⟩ := okWide_struct Tryz.underlying32 hv
  obtain ⟨c0, c1, c2, c3, c4, c5, c6, rfl⟩ := array7 (hsz.trans cells_goal)
  obtain ⟨fuel, hf⟩ := h
  obtain ⟨y0, y1, y2, n, _, _, h0, h1, h2⟩ := trod_struct3 Tryz.underlying32 hf
  rw [cells_snd] at h0
  obtain ⟨s, e0, e1, e2, e3, e4⟩ := one_snd n c0 c1 c2 c3 c4 y0 (by simpa [Value.cells] using h0)
  obtain ⟨n1, e5, _, w1⟩ := DataW.trod_int Tryz.underlying2 h1
  obtain ⟨n2, e6, _, w2⟩ := DataW.trod_int Tryz.underlying2 h2
  simp [cells_int, Value.cells] at e5 e6
  subst e0 e1 e2 e3 e4 e5 e6
  exact ⟨⟨s, n1, n2⟩, rfl, trivial⟩
end
end Go.Proofs.YtenedpboehkmjaaGreat
/- The reference's search for a plan: contract of raw. -/
set_option linter.unusedSimpArgs false
set_option linter.unnecessarySimpa false
set_option linter.unusedVariables false
set_option maxRecDepth 100000
namespace Go.Proofs.YtenedpboehkmjaaGreat
open Go.RowKit

theorem prfInAlloc {w : World} {x : PrfD} {zs : List Int} {f : Nat → Int} {a : Option Addr} {c : Nat} (h : Rngs w (.slice a x.rings.length c) (turnV zs f x.rings)) (e : TypeId) :
    PrfIn (w.alloc (.cells #[.string x.name, .slice a x.rings.length c] e)) w.heap.size 0 (turnP x zs f) a c := by
  have B := Box.alloc w [.string x.name, .slice a x.rings.length c] e _ rfl
  have hL : (turnP x zs f).rings.length = x.rings.length := turnV_len
  exact ⟨B.lt, B.at' 0 _ rfl, by rw [hL]; exact B.at' 1 _ rfl, by rw [hL]; exact h.mono (belowA _ _)⟩
theorem prfInBox {w : World} {q : Nat} {x : PrfD} {zs : List Int} {f : Nat → Int} {a : Option Addr} {c : Nat} (h : Rngs w (.slice a x.rings.length c) (turnV zs f x.rings)) (B : Box w q [.string x.name, .slice a x.rings.length c]) :
    PrfIn w q 0 (turnP x zs f) a c := by
  have hL : (turnP x zs f).rings.length = x.rings.length := turnV_len
  exact ⟨B.lt, B.at' 0 _ rfl, by rw [hL]; exact B.at' 1 _ rfl, by rw [hL]; exact h⟩
theorem Rngs.touchR {w w' : World} {a : Option Addr} {n c B E : Nat} {xs : List Rng} (h : Rngs w (.slice a n c) xs) (t : Touch B E w w') (ha : ∀ b o, a = some ⟨b, o, none⟩ → b < B ∨ E ≤ b) : Rngs w' (.slice a n c) xs := by
  obtain ⟨a', cap, e, h1, h2, h3⟩ := h
  cases e
  refine ⟨_, _, rfl, h1, h2, fun j u hu => ?_⟩
  obtain ⟨b, off, e, hc⟩ := h3 j u hu
  exact ⟨b, off, e, cellT t hc (ha b off e)⟩
theorem rngs_lt {w : World} {n c b o : Nat} {xs : List Rng} (h : Rngs w (.slice (some ⟨b, o, none⟩) n c) xs) (hl : 0 < xs.length) : b < w.heap.size := by
  obtain ⟨_, _, e, h1, h2, h3⟩ := h
  cases e
  obtain ⟨b', off, e, hc⟩ := h3 0 (.int .i64 xs[0].outer) (by
    have := flat_at (f := Rng.cells) (m := 3) (fun _ => rfl) xs 0 0 hl (by omega) (u := .int .i64 xs[0].outer) rfl
    simpa using this)
  cases e
  exact World.block_lt_of_cell? w _ hc
theorem zo_turn {p : PrfD} {zs : List Int} {f : Nat → Int} (zo : zonesOk p.rings.length zs) : zonesOk (turnP p zs f).rings.length zs := by
  rw [show (turnP p zs f).rings.length = p.rings.length from turnV_len]; exact zo

set_option maxHeartbeats 8000000 in
theorem raw_any (p0 q o : Nat) (x : ModD) (q2 o2 : Nat) (p : PrfD) (q3 o3 : Nat) (g : GoalD) (st : List Int) (w : World) {a : Option Addr} {c : Nat} (hE : EnvS w q o x q2 o2 p q3 o3 g) (c0 : w.cell? ⟨p0, 0, none⟩ = some (ptr q o)) (c1 : w.cell? ⟨p0, 1, none⟩ = some (ptr q2 o2)) (c4 : w.cell? ⟨p0, 4, none⟩ = some (.slice a st.length c)) (hI : Ints w (.slice a st.length c) st) (hl : st.length ≤ x.zones.length) (hrm : inRoom p x.zones (stF st)) :
    Calls Tryz.prog 45 #[ptr p0 0] w fun e w' => ∃ v, e = .returned v ∧ OwnInts w.heap.size w'.heap.size w' v (rawS x p st) ∧ Below w.heap.size w w' := by
  have HE := Lib.hid hE
  have HI := Lib.hid hI
  have HRM := Lib.hid hrm
  obtain ⟨az, cz, ag, cg, ab, cb, hm⟩ := hE.im
  obtain ⟨ap, cp, hp⟩ := hE.ip
  have HM := Lib.hid hm; have HP := Lib.hid hp
  have hl8 := hE.zo.1.2
  have hl1 := hE.zo.1.1
  have hp0 := World.block_lt_of_cell? _ _ c0
  simp only at hp0
  obtain ⟨i0, hi, hi0, hi1, hi2⟩ := info_parts info_int
  unfold ptr at c0 c1 ⊢
  have HC0 := Lib.hid c0
  clear hE hI hrm hm hp
  go_enter Tryz.func45, Tryz.ntmps45
  go_wp2_with (at_make; refine wpList_make_full _ rfl _ _ 22 rfl w.heap.size 2 i0 (.int .i64 0) 1 Tryz.underlying22 hi hi0 hi1 _ _ _ _ 8 rfl rfl rfl rfl (by rw [hi2]; omega) (by unfold maxLen; omega) (Nat.le_refl _) ?_)
  intro w2 hown hgrow
  have hb2 : Below w.heap.size w w2 := (Below.refl _ _).grown hgrow (Nat.le_refl _) (by simp)
  have BX := Lib.hid (show Box w2 w.heap.size ((padL 8 (st.take 0)).map (Value.int .i64)) by rw [List.take_zero, padL_nil, List.map_replicate]; exact makeBox hown)
  have HB2 := Lib.hid hb2
  have s2 := hb2.size
  clear hown hgrow hb2
  go_wp2_with fail
  go_loopw [4] (fun iv wr => ∃ k : Nat, k ≤ st.length ∧ iv = .int .i64 (k : Int) ∧ Box wr w.heap.size ((padL 8 (st.take k)).map (Value.int .i64)) ∧ Touch w.heap.size (w.heap.size + 1) w2 wr) (fun iv _ => st.length - (intOf iv).toNat)
  case atStart => exact ⟨0, Nat.zero_le _, by go_num, BX.out, Touch.refl _ _ _⟩
  case round =>
    obtain ⟨k, hk, rfl, hbx, ht⟩ := hrel
    have HBX := Lib.hid hbx; have HTS := Lib.hid ht
    have HBW := Lib.hid (ht.below HB2.out (Nat.le_refl _) HB2.out.size)
    clear hbx ht
    have d0 := cellB HBW.out c0
    have d1 := cellB HBW.out c1
    have d4 := cellB HBW.out c4
    have hz := HBW.out.size
    have hlp : p0 < wr.heap.size := by omega
    by_cases hlt : k < st.length
    · obtain ⟨b1, o1, rfl, cc⟩ := (Ints.mono HI.out HBW.out).cells (by simp; omega)
      have e1 := cc k (.int .i64 (st.getD k 0)) (by simp [hlt])
      have e2 := HBX.out.at' k (.int .i64 0) (by
        have hlen : (st.take k).length = k := by rw [List.length_take]; omega
        rw [List.getElem?_map]; unfold padL
        rw [List.getElem?_append_right (by omega), List.getElem?_replicate, if_pos (by omega)]; rfl)
      have f2 := HBX.out.fr k
      have l2 := HBX.out.lt
      have hk8 : k < 8 := by omega
      have hk8I : (k : Int) < 8 := by omega
      have hkI : (k : Int) < (st.length : Int) := by omega
      have hu := HBX.out.set (j := k) (.int .i64 (st.getD k 0)) (by rw [List.length_map, padL_len (by rw [List.length_take]; omega)]; exact hk8)
      rw [← List.map_set, padL_take hlt (by omega)] at hu
      have HU := Lib.hid hu
      have w3' : IntKind.i64.wrap ((k : Int) + 1) = (k : Int) + 1 := IntWalk.i64_in _ (by omega)
      obtain ⟨y, hy⟩ : ∃ y, y = st.getD k 0 := ⟨_, rfl⟩
      rw [← hy] at e1 HU
      clear hu cc hy
      go_wp2
      go_roundw
      case rel => exact ⟨k + 1, by omega, by go_num, HU.out, HTS.out.setCell ⟨Nat.le_refl _, Nat.lt_succ_self _⟩ _⟩
      case measure => simp [intOf]; omega
    · obtain rfl : k = st.length := by omega
      have hbx := HBX.out
      rw [List.take_length] at hbx
      have HXI := Lib.hid (Ints.of_box (cap := 8) hbx (padL_len (by omega)) (Nat.le_refl _) (by unfold maxLen; omega))
      have HRT : Rngs wr (.slice none 0 0) [] := ⟨none, 0, rfl, Nat.le_refl _, by unfold maxLen; omega, by intro j u hu; cases hu⟩
      have HIM2 := Lib.hid (HM.out.mono HBW.out)
      have HIP2 := Lib.hid (HP.out.mono HBW.out)
      have m0 := HIM2.out.c0
      have lm := HIM2.out.lt
      have lp := HIP2.out.lt
      clear hbx HRT
      go_wp2_with fail
      refine wp_region_T 0 0 15 (by kernel_rfl) rfl ?_
      obtain ⟨W0, hW⟩ : ∃ W0, W0 = wr.drew := ⟨_, rfl⟩
      rw [← hW]
      have hWb : Below wr.heap.size wr W0 := by rw [hW]; exact (Below.refl _ _).drew
      have HBW0 := Lib.hid (HBW.out.trans (hWb.mono HBW.out.size))
      have hz0 : wr.heap.size ≤ W0.heap.size := hWb.size
      have HXI0 := Lib.hid (Ints.mono HXI.out hWb)
      have HIM0 := Lib.hid (HIM2.out.mono hWb)
      have HIP0 := Lib.hid (HIP2.out.mono hWb)
      replace d0 := cellB hWb d0
      replace d1 := cellB hWb d1
      replace m0 := cellB hWb m0
      have hlp : p0 < W0.heap.size := by omega
      have hlm : q < W0.heap.size := by omega
      have n1 : ∀ o y, (extT W0 0 0 y).cell? ⟨p0, o, none⟩ = W0.cell? ⟨p0, o, none⟩ := fun o y => cell?_extT hlp (.inr (Nat.zero_le _))
      have n2 : ∀ o y, (extT W0 0 0 y).cell? ⟨q, o, none⟩ = W0.cell? ⟨q, o, none⟩ := fun o y => cell?_extT hlm (.inr (Nat.zero_le _))
      clear hW hWb d4 c0 c1 c4
      (with_reducible refine wpT_soft 0 (by kernel_rfl) (Touch.refl _ _ _) (fun K hK => ?_)); simp only [List.getElem?_toArray, List.getElem?_cons_zero, List.getElem?_cons_succ]; (first | (go_simp; refine hK _ ?_) | (simp only [undef]; go_simp; refine hK _ ?_)); clear hK K; (with_reducible refine wpT_soft 1 (by kernel_rfl) (Touch.refl _ _ _) (fun K hK => ?_)); simp only [List.getElem?_toArray, List.getElem?_cons_zero, List.getElem?_cons_succ]; (first | (go_simp; refine hK _ ?_) | (simp only [undef]; go_simp; refine hK _ ?_)); clear hK K; (with_reducible refine wpT_soft 2 (by kernel_rfl) (Touch.refl _ _ _) (fun K hK => ?_)); simp only [List.getElem?_toArray, List.getElem?_cons_zero, List.getElem?_cons_succ]; (first | (go_simp; refine hK _ ?_) | (simp only [undef]; go_simp; refine hK _ ?_)); clear hK K; (with_reducible refine wpT_soft 3 (by kernel_rfl) (Touch.refl _ _ _) (fun K hK => ?_)); simp only [List.getElem?_toArray, List.getElem?_cons_zero, List.getElem?_cons_succ]; (first | (go_simp; refine hK _ ?_) | (simp only [undef]; go_simp; refine hK _ ?_)); clear hK K; (with_reducible refine wpT_soft 4 (by kernel_rfl) (Touch.refl _ _ _) (fun K hK => ?_)); simp only [List.getElem?_toArray, List.getElem?_cons_zero, List.getElem?_cons_succ]; (first | (go_simp; refine hK _ ?_) | (simp only [undef]; go_simp; refine hK _ ?_)); clear hK K; (with_reducible refine wpT_soft 5 (by kernel_rfl) (Touch.refl _ _ _) (fun K hK => ?_)); simp only [List.getElem?_toArray, List.getElem?_cons_zero, List.getElem?_cons_succ]; (first | (go_simp; refine hK _ ?_) | (simp only [undef]; go_simp; refine hK _ ?_)); clear hK K; (with_reducible refine wpT_soft 6 (by kernel_rfl) (Touch.refl _ _ _) (fun K hK => ?_)); simp only [List.getElem?_toArray, List.getElem?_cons_zero, List.getElem?_cons_succ]; (first | (go_simp; refine hK _ ?_) | (simp only [undef]; go_simp; refine hK _ ?_)); clear hK K; (with_reducible refine wpT_soft 7 (by kernel_rfl) (Touch.refl _ _ _) (fun K hK => ?_)); simp only [List.getElem?_toArray, List.getElem?_cons_zero, List.getElem?_cons_succ]; (first | (go_simp; refine hK _ ?_) | (simp only [undef]; go_simp; refine hK _ ?_)); clear hK K; (with_reducible refine wpT_soft 8 (by kernel_rfl) (Touch.refl _ _ _) (fun K hK => ?_)); simp only [List.getElem?_toArray, List.getElem?_cons_zero, List.getElem?_cons_succ]; (first | (go_simp; refine hK _ ?_) | (simp only [undef]; go_simp; refine hK _ ?_)); clear hK K; (with_reducible refine wpT_soft 9 (by kernel_rfl) (Touch.refl _ _ _) (fun K hK => ?_)); simp only [List.getElem?_toArray, List.getElem?_cons_zero, List.getElem?_cons_succ]; (first | (go_simp; refine hK _ ?_) | (simp only [undef]; go_simp; refine hK _ ?_)); clear hK K; (with_reducible refine wpT_soft 10 (by kernel_rfl) (Touch.refl _ _ _) (fun K hK => ?_)); simp only [List.getElem?_toArray, List.getElem?_cons_zero, List.getElem?_cons_succ]; (first | (go_simp; refine hK _ ?_) | (simp only [undef]; go_simp; refine hK _ ?_)); clear hK K; (with_reducible refine wpT_soft 11 (by kernel_rfl) (Touch.refl _ _ _) (fun K hK => ?_)); simp only [List.getElem?_toArray, List.getElem?_cons_zero, List.getElem?_cons_succ]; (first | (go_simp; refine hK _ ?_) | (simp only [undef]; go_simp; refine hK _ ?_)); clear hK K
      clear n1 n2
      (with_reducible refine wpT_two 12 13 (by kernel_rfl) ?_ ?_) <;> simp only [List.getElem?_toArray, List.getElem?_cons_zero, List.getElem?_cons_succ]
      · go_wp2_with fail
        refine (l09Turned_any q2 o2 p _ x.zones _ (padL 8 st) _ HIP0.out HIM0.out.z HXI0.out HE.out.okp hl1 (by rw [padL_len (by omega)]; exact hl8) (fun z hz => by rw [padL_at]; exact room_20 HRM.out z hz)).mono ?_
        rintro e w4 ⟨a4, c4, rfl, hr4, hb4, _⟩
        rw [padL_stF] at hr4
        have HR4 := Lib.hid hr4
        have HB4 := Lib.hid hb4
        have hz4 := hb4.size
        have tt : Touch 0 0 W0 w4 := (Touch.refl _ _ _).step hb4 (Nat.le_refl _)
        have HBW4 := Lib.hid (HBW0.out.trans (hb4.mono HBW0.out.size))
        have hap : ∀ b o, a4 = some ⟨b, o, none⟩ → b < w4.heap.size ∨ w4.heap.size + 1 ≤ b := by
          rintro b o rfl
          exact .inl (rngs_lt HR4.out (by rw [turnV_len]; exact HE.out.okp.2.1.1))
        clear hr4 hb4
        go_wp2_with fail
        refine ⟨tt, ?_⟩
        (with_reducible refine wpT_one 13 (by kernel_rfl) ?_); simp only [List.getElem?_toArray, List.getElem?_cons_zero, List.getElem?_cons_succ]
        go_wp2_with fail
        refine ⟨tt.alloc _, ?_⟩
        have B5 : Box (w4.alloc (.cells #[.string ⟨#[]⟩, .slice none 0 0] 42)) w4.heap.size [.string ⟨#[]⟩, .slice none 0 0] := Box.alloc w4 _ _ _ rfl
        have t5 := tt.alloc (.cells #[.string ⟨#[]⟩, .slice none 0 0] 42)
        have hba := belowA w4 (.cells #[.string ⟨#[]⟩, .slice none 0 0] 42)
        have HR5 := Lib.hid (HR4.out.mono hba)
        have HBW5 := Lib.hid (HBW4.out.trans (hba.mono HBW4.out.size))
        obtain ⟨w5, hw5⟩ : ∃ w5, w5 = w4.alloc (.cells #[.string ⟨#[]⟩, .slice none 0 0] 42) := ⟨_, rfl⟩
        rw [← hw5] at B5 t5 HR5 HBW5 ⊢
        clear hw5 hba tt HBW4
        have hbl := B5.lt
        have b0 := B5.at' 0 _ rfl
        have b1 := B5.at' 1 _ rfl
        have f0 := B5.fr 0
        have f1 := B5.fr 1
        clear d0 d1 m0
        (with_reducible refine wpT_one 14 (by kernel_rfl) ?_); simp only [List.getElem?_toArray, List.getElem?_cons_zero, List.getElem?_cons_succ]
        go_wp2_with fail
        refine ⟨(t5.setNew (p := ⟨w4.heap.size, 0, none⟩) (by simp only; omega) _).setNew (p := ⟨w4.heap.size, 1, none⟩) (by simp only; omega) _, ?_⟩
        ((with_reducible refine wpT_done (by kernel_rfl) ?_ _); refine NoPanic.normal ?_)
        have B6 := (B5.set (.string p.name) (j := 0) (by simp)).set (.slice a4 p.rings.length c4) (j := 1) (by simp)
        simp only [List.set_cons_zero, List.set_cons_succ] at B6
        have t6 : Touch w4.heap.size (w4.heap.size + 1) w5 ((w5.setCell ⟨w4.heap.size, 0, none⟩ (.string p.name)).setCell ⟨w4.heap.size, 1, none⟩ (.slice a4 p.rings.length c4)) := ((Touch.refl _ _ _).setCell (p := ⟨w4.heap.size, 0, none⟩) ⟨Nat.le_refl _, Nat.lt_succ_self _⟩ _).setCell (p := ⟨w4.heap.size, 1, none⟩) ⟨Nat.le_refl _, Nat.lt_succ_self _⟩ _
        obtain ⟨w6, hw6⟩ : ∃ w6, w6 = (w5.setCell ⟨w4.heap.size, 0, none⟩ (.string p.name)).setCell ⟨w4.heap.size, 1, none⟩ (.slice a4 p.rings.length c4) := ⟨_, rfl⟩
        rw [← hw6] at B6 t6 ⊢
        have HBQ := Lib.hid (show Below w.heap.size w w6 from t6.below HBW5.out (by have := HBW0.out.size; omega) HBW5.out.size)
        have HR6 := Lib.hid (HR5.out.touchR t6 (by rintro b o rfl; exact hap b o rfl))
        have HIM6 := Lib.hid (HM.out.mono HBQ.out)
        have hzq := HBQ.out.size
        have m0 := HIM6.out.c0
        have d0 := cellB HBQ.out HC0.out
        have hlp : p0 < w6.heap.size := by omega
        clear hw6 t6 t5 b0 b1 f0 f1 B5 hbl
        go_wp2_with fail
        refine (l08Raw_any q o x _ 0 (turnP p x.zones (stF st)) _ HIM6.out (prfInBox HR6.out B6) HE.out.okm (turn_ok HE.out.okp hl1 HRM.out) (zo_turn HE.out.zo)).mono ?_
        rintro e w7 ⟨v7, rfl, ho7, hb7⟩
        obtain ⟨a7, c7, rfl⟩ := ho7.form
        have HO7 := Lib.hid ho7
        have HB7 := Lib.hid (HBQ.out.trans (hb7.mono HBQ.out.size))
        clear ho7 hb7 B6
        go_wp2
        go_ret
        exact ⟨_, rfl, OwnInts.wide HO7.out (by omega) (Nat.le_refl _), HB7.out⟩
      · go_wp2_with fail
        have B5 : Box (W0.alloc (.cells #[.string ⟨#[]⟩, .slice none 0 0] 42)) W0.heap.size [.string ⟨#[]⟩, .slice none 0 0] := Box.alloc W0 _ _ _ rfl
        have tt := (Touch.refl 0 0 W0).alloc (.cells #[.string ⟨#[]⟩, .slice none 0 0] 42)
        have hba := belowA W0 (.cells #[.string ⟨#[]⟩, .slice none 0 0] 42)
        refine ⟨tt, ?_⟩
        obtain ⟨V, hV⟩ : ∃ V, V = W0.alloc (.cells #[.string ⟨#[]⟩, .slice none 0 0] 42) := ⟨_, rfl⟩
        rw [← hV] at B5 tt hba ⊢
        have hzV := hba.size
        clear hV
        (with_reducible refine wpT_one 12 (by kernel_rfl) ?_); simp only [List.getElem?_toArray, List.getElem?_cons_zero, List.getElem?_cons_succ]
        go_wp2_with fail
        refine (l09Turned_any q2 o2 p _ x.zones _ (padL 8 st) _ (HIP0.out.mono hba) (Ints.mono HIM0.out.z hba) (Ints.mono HXI0.out hba) HE.out.okp hl1 (by rw [padL_len (by omega)]; exact hl8) (fun z hz => by rw [padL_at]; exact room_20 HRM.out z hz)).mono ?_
        rintro e w5 ⟨a4, c4, rfl, hr4, hb4, hap4⟩
        rw [padL_stF] at hr4
        have HR5 := Lib.hid hr4
        have hz4 := hb4.size
        have t5 : Touch 0 0 W0 w5 := tt.step hb4 hba.size
        have HBV := HBW0.out.trans (hba.mono HBW0.out.size)
        have HBW5 := Lib.hid (HBV.trans (hb4.mono HBV.size))
        have hap : ∀ b o, a4 = some ⟨b, o, none⟩ → b < W0.heap.size ∨ W0.heap.size + 1 ≤ b := fun b o e => .inr (by have := hap4 b o e; omega)
        replace B5 := B5.mono hb4
        clear hr4 hb4 tt hba HBV
        go_wp2_with fail
        refine ⟨t5, ?_⟩
        have hbl := B5.lt
        have b0 := B5.at' 0 _ rfl
        have b1 := B5.at' 1 _ rfl
        have f0 := B5.fr 0
        have f1 := B5.fr 1
        clear d0 d1 m0
        (with_reducible refine wpT_one 14 (by kernel_rfl) ?_); simp only [List.getElem?_toArray, List.getElem?_cons_zero, List.getElem?_cons_succ]
        go_wp2_with fail
        refine ⟨(t5.setNew (p := ⟨W0.heap.size, 0, none⟩) (by simp only; omega) _).setNew (p := ⟨W0.heap.size, 1, none⟩) (by simp only; omega) _, ?_⟩
        ((with_reducible refine wpT_done (by kernel_rfl) ?_ _); refine NoPanic.normal ?_)
        have B6 := (B5.set (.string p.name) (j := 0) (by simp)).set (.slice a4 p.rings.length c4) (j := 1) (by simp)
        simp only [List.set_cons_zero, List.set_cons_succ] at B6
        have t6 : Touch W0.heap.size (W0.heap.size + 1) w5 ((w5.setCell ⟨W0.heap.size, 0, none⟩ (.string p.name)).setCell ⟨W0.heap.size, 1, none⟩ (.slice a4 p.rings.length c4)) := ((Touch.refl _ _ _).setCell (p := ⟨W0.heap.size, 0, none⟩) ⟨Nat.le_refl _, Nat.lt_succ_self _⟩ _).setCell (p := ⟨W0.heap.size, 1, none⟩) ⟨Nat.le_refl _, Nat.lt_succ_self _⟩ _
        obtain ⟨w6, hw6⟩ : ∃ w6, w6 = (w5.setCell ⟨W0.heap.size, 0, none⟩ (.string p.name)).setCell ⟨W0.heap.size, 1, none⟩ (.slice a4 p.rings.length c4) := ⟨_, rfl⟩
        rw [← hw6] at B6 t6 ⊢
        have HBQ := Lib.hid (show Below w.heap.size w w6 from t6.below HBW5.out (by have := HBW0.out.size; omega) HBW5.out.size)
        have HR6 := Lib.hid (HR5.out.touchR t6 (by rintro b o rfl; exact hap b o rfl))
        have HIM6 := Lib.hid (HM.out.mono HBQ.out)
        have hzq := HBQ.out.size
        have m0 := HIM6.out.c0
        have d0 := cellB HBQ.out HC0.out
        have hlp : p0 < w6.heap.size := by omega
        clear hw6 t6 t5 b0 b1 f0 f1 B5 hbl
        go_wp2_with fail
        refine (l08Raw_any q o x _ 0 (turnP p x.zones (stF st)) _ HIM6.out (prfInBox HR6.out B6) HE.out.okm (turn_ok HE.out.okp hl1 HRM.out) (zo_turn HE.out.zo)).mono ?_
        rintro e w7 ⟨v7, rfl, ho7, hb7⟩
        obtain ⟨a7, c7, rfl⟩ := ho7.form
        have HO7 := Lib.hid ho7
        have HB7 := Lib.hid (HBQ.out.trans (hb7.mono HBQ.out.size))
        clear ho7 hb7 B6
        go_wp2
        go_ret
        exact ⟨_, rfl, OwnInts.wide HO7.out (by omega) (Nat.le_refl _), HB7.out⟩
end Go.Proofs.YtenedpboehkmjaaGreat
/- Contracts of slices.Clone and slices.Equal at []int64, and of size. -/
set_option linter.unusedSimpArgs false
set_option linter.unnecessarySimpa false
set_option linter.unusedVariables false
set_option maxRecDepth 100000
namespace Go.Proofs.YtenedpboehkmjaaGreat
open Go.RowKit

theorem ints_one (xs : List Int) : ∀ u ∈ xs.map (Value.int .i64), u.oneCell' = true := by
  intro u hu
  obtain ⟨l, _, rfl⟩ := List.mem_map.1 hu
  rfl

set_option maxHeartbeats 400000 in
theorem cloneInts_any (v : Value) (xs : List Int) (w : World) (h : Ints w v xs) (hs : xs.length ≤ 1048576) :
    Calls Tryz.prog 52 #[v] w fun e w' => ∃ v', e = .returned v' ∧ OwnInts w.heap.size w'.heap.size w' v' xs ∧ Below w.heap.size w w' := by
  obtain ⟨a, ca, rfl, hca, hcm, _⟩ := id h
  have en := fun w => Lib.run_eql_slice_nil (P := Tryz.prog) w 22 2 a xs.length ca 0 0 Tryz.underlying22
  rcases a with _ | ad
  · have hx : xs = [] := by
      rcases xs with _ | ⟨x, r⟩
      · rfl
      · obtain ⟨_, _, e, _⟩ := h.cells (by simp); cases e
    subst hx
    simp only [List.length_nil] at en
    go_enter Tryz.func52, Tryz.ntmps52
    go_wp2
    go_ret
    exact ⟨_, rfl, OwnInts.nil _ _ _, Below.refl _ _⟩
  · go_enter Tryz.func52, Tryz.ntmps52
    go_wp2_with (at_builtin; refine append_all rfl _ _ 22 rfl w.heap.size 2 _ 1 8 Tryz.underlying22 info_int rfl (by decide) (.slice (some ⟨w.heap.size, 0, none⟩) 0 0) 0 [] rfl (owns_empty w 2 1 _ (Nat.le_refl _)) (.slice (some ad) xs.length ca) xs.length (xs.map (Value.int .i64)) rfl (Ints.mono h (by (repeat (first | with_reducible exact Below.refl _ _ | with_reducible exact hbw | (with_reducible refine Below.setCell ?_ ?_ _; rotate_left; · first | exact Nat.le_refl _ | omega | (simp; done) | (simp; omega)) | (with_reducible refine Below.alloc ?_ ?_ _; rotate_left; · first | exact Nat.le_refl _ | omega | (simp; done) | (simp; omega)) | with_reducible refine below_drewN ?_ _ | with_reducible refine Below.drew ?_)))) (by simp) (ints_one xs) (by omega) (by decide) (by simp) ?_)
    intro a' c' w1 ho hg hb
    go_wp2
    go_ret
    exact ⟨_, rfl, OwnInts.mk' (by simpa using ho), Below.trans (by (repeat (first | with_reducible exact Below.refl _ _ | with_reducible exact hbw | (with_reducible refine Below.setCell ?_ ?_ _; rotate_left; · first | exact Nat.le_refl _ | omega | (simp; done) | (simp; omega)) | (with_reducible refine Below.alloc ?_ ?_ _; rotate_left; · first | exact Nat.le_refl _ | omega | (simp; done) | (simp; omega)) | with_reducible refine below_drewN ?_ _ | with_reducible refine Below.drew ?_))) hb⟩

theorem sizeI_any (a : Option Addr) (n c : Nat) (w : World) : Calls Tryz.prog 131 #[.slice a n c] w fun e w' => e = .returned (.int .i64 n) ∧ w' = w := by
  go_enter Tryz.func131, Tryz.ntmps131
  go_wp2
  go_ret
  exact ⟨rfl, rfl⟩

end Go.Proofs.YtenedpboehkmjaaGreat
/- The reference's search for a plan: contract of done. -/
set_option linter.unusedSimpArgs false
set_option linter.unnecessarySimpa false
set_option linter.unusedVariables false
set_option maxRecDepth 100000
namespace Go.Proofs.YtenedpboehkmjaaGreat
open Go.RowKit

set_option maxHeartbeats 400000 in
theorem ownInts_any (v : Value) (xs : List Int) (w : World) (h : Ints w v xs) (hs : xs.length ≤ 1048576) :
    Calls Tryz.prog 64 #[v] w fun e w' => ∃ v', e = .returned v' ∧ OwnInts w.heap.size w'.heap.size w' v' xs ∧ Below w.heap.size w w' := by
  obtain ⟨a, ca, rfl, hca, hcm, _⟩ := id h
  go_enter Tryz.func64, Tryz.ntmps64
  go_wp2_with (at_builtin; refine append_all rfl _ _ 22 rfl w.heap.size 2 _ 1 8 Tryz.underlying22 info_int rfl (by decide) (.slice (some ⟨w.heap.size, 0, none⟩) 0 0) 0 [] rfl (owns_empty w 2 1 _ (Nat.le_refl _)) (.slice a xs.length ca) xs.length (xs.map (Value.int .i64)) rfl (Ints.mono h (by (repeat (first | with_reducible exact Below.refl _ _ | with_reducible exact hbw | (with_reducible refine Below.setCell ?_ ?_ _; rotate_left; · first | exact Nat.le_refl _ | omega | (simp; done) | (simp; omega)) | (with_reducible refine Below.alloc ?_ ?_ _; rotate_left; · first | exact Nat.le_refl _ | omega | (simp; done) | (simp; omega)) | with_reducible refine below_drewN ?_ _ | with_reducible refine Below.drew ?_)))) (by simp) (ints_one xs) (by omega) (by decide) (by simp) ?_)
  intro a' c' w1 ho hg hb
  go_wp2
  go_ret
  exact ⟨_, rfl, OwnInts.mk' (by simpa using ho), Below.trans (by (repeat (first | with_reducible exact Below.refl _ _ | with_reducible exact hbw | (with_reducible refine Below.setCell ?_ ?_ _; rotate_left; · first | exact Nat.le_refl _ | omega | (simp; done) | (simp; omega)) | (with_reducible refine Below.alloc ?_ ?_ _; rotate_left; · first | exact Nat.le_refl _ | omega | (simp; done) | (simp; omega)) | with_reducible refine below_drewN ?_ _ | with_reducible refine Below.drew ?_))) hb⟩

def DoneP (p0 : Nat) (vm vp vg vr : Value) (budget : Nat) (total : Int) (vs : Value) (sum : Int) (left : Nat) (pl : Prop) (st : List Int) (w : World) (e : Ending) (w' : World) : Prop :=
  (pl → ∃ vb, e = .returned (.bool true) ∧ Box w' p0 (fS vm vp vg vr budget total vs sum vb 1 left false) ∧ Ints w' vb st ∧ (∀ b, vb.ownBlock = some b → w.heap.size ≤ b) ∧ Touch p0 (p0 + 1) w w') ∧ (¬ pl → e = .returned (.bool false) ∧ Below w.heap.size w w')
set_option maxHeartbeats 4000000 in
theorem done_any (p0 q o : Nat) (x : ModD) (q2 o2 : Nat) (p : PrfD) (q3 o3 : Nat) (g : GoalD) (st : List Int) (vr : Value) (budget : Nat) (total sum : Int) (left : Nat) (vraw : Value) (w : World) {a : Option Addr} {c : Nat} (hE : EnvS w q o x q2 o2 p q3 o3 g) (B : Box w p0 (fS (ptr q o) (ptr q2 o2) (ptr q3 o3) vr budget total (.slice a st.length c) sum (.slice none 0 0) 0 left false)) (hI : Ints w (.slice a st.length c) st) (hraw : Ints w vraw (rawS x p st)) (hl : st.length ≤ 8) (hpo : p0 ≠ q3) (hoff : Off (.slice a st.length c) p0 p0) :
    Calls Tryz.prog 44 #[ptr p0 0, vraw] w fun e w' => DoneP p0 (ptr q o) (ptr q2 o2) (ptr q3 o3) vr budget total (.slice a st.length c) sum left (planP x p g st) st w e w' := by
  have HE := Lib.hid hE
  have HB := Lib.hid B
  have HI := Lib.hid hI
  have HR := Lib.hid hraw
  obtain ⟨ar, cr, rfl, _⟩ := id hraw
  have HG := Lib.hid hE.ig
  have HOF := Lib.hid hoff
  have l0 := B.lt
  have c2 := B.at' 2 _ rfl
  unfold ptr at c2 ⊢
  clear hE B hI hraw hoff
  obtain ⟨s, hs⟩ : ∃ s, s = sOf (rawS x p st) := ⟨_, rfl⟩
  have hsl : s.list = rawS x p st := by rw [hs]; exact sOf_list (rawS_len x p st)
  have HS := Lib.hid hs
  have HSL := Lib.hid hsl
  have HR2 := Lib.hid (show Ints w (.slice ar (rawS x p st).length cr) s.list by rw [HSL.out]; exact HR.out)
  clear hs hsl
  go_enter Tryz.func44, Tryz.ntmps44
  go_wp2_with fail
  refine (l10Dev_any q3 o3 g.t _ s _ HG.out.snd (goal_hz HE.out.okg) HR2.out).mono ?_
  rintro e w1 ⟨hb1, hyes, hno⟩
  have HB1 := Lib.hid hb1
  clear hb1
  by_cases hok : sndOk s
  · obtain ⟨v1, rfl, ho1⟩ := hyes hok
    have HOK := Lib.hid hok
    have HO1 := Lib.hid ho1.rd
    obtain ⟨a1, c1, rfl⟩ := ho1.form
    clear hyes hno hok ho1 c2 l0
    have hzs := ((snd_iff s).1 HOK.out).1
    have HSM := Lib.hid (devs_sm (goal_hz HE.out.okg) hzs)
    clear hzs
    go_wp2_with fail
    refine (l10Greatest_any _ (devs g.t s) _ HO1.out HSM.out).mono ?_
    rintro e w2 ⟨rfl, hq2⟩
    have HB2 := Lib.hid (HB1.out.trans ((hq2.below _).mono HB1.out.size))
    clear hq2
    obtain ⟨gr, hgr⟩ : ∃ gr, gr = great (devs g.t s) := ⟨_, rfl⟩
    rw [← hgr]
    have HGR := Lib.hid hgr
    clear hgr
    have B2 := HB.out.mono HB2.out
    have GI := HG.out.mono HB2.out
    have l0 := B2.lt
    have c2 := B2.at' 2 _ rfl
    have c4 := B2.at' 4 _ rfl
    have c7 := B2.at' 7 _ rfl
    have c8 := B2.at' 8 _ rfl
    have c9 := B2.at' 9 _ rfl
    have c11 := B2.at' 11 _ rfl
    have f9 := B2.fr 9
    have f11 := B2.fr 11
    have g5 := GI.c5
    unfold ptr at c2
    by_cases hgt : gr ≤ g.tol
    · have e1 : decide (g.tol < gr) = false := decide_eq_false (by omega)
      have hne : ¬ q3 = p0 := fun e => hpo e.symm
      have HX := Lib.hid (show planP x p g st from ⟨by rw [← HS.out]; exact HOK.out, by rw [← HS.out, ← HGR.out]; exact hgt⟩)
      have B3 := B2.set (.int .i64 1) (j := 11) (by simp [fS])
      have HT3 := Lib.hid ((Two.refl p0 p0 w2).setCell (a := ⟨p0, 11, none⟩) (.inl rfl) (.int .i64 1))
      have HI3 := Lib.hid ((Ints.mono HI.out HB2.out).two HT3.out HOF.out)
      clear hgt GI B2
      go_wp2_with fail
      obtain ⟨w3, hw3⟩ : ∃ w3, w3 = w2.setCell ⟨p0, 11, none⟩ (.int .i64 1) := ⟨_, rfl⟩
      rw [← hw3] at B3 HT3 HI3 ⊢
      clear hw3 c2 c4 c7 c8 c9 c11 f9 f11 l0 g5
      have B3' : Box w3 p0 (fS (ptr q o) (ptr q2 o2) (ptr q3 o3) vr budget total (.slice a st.length c) sum (.slice none 0 0) 1 left false) := B3
      have HB3 := Lib.hid B3'
      have c4 := B3'.at' 4 _ rfl
      have c7 := B3'.at' 7 _ rfl
      have l3 := B3'.lt
      clear B3 B3'
      go_wp2_with fail
      refine (ownInts_any _ st _ HI3.out (by omega)).mono ?_
      rintro e w4 ⟨v4, rfl, ho4, hb4⟩
      have hz4 := hb4.size
      have HO4 := Lib.hid ho4
      have B4 := HB3.out.mono hb4
      have HT4 := Lib.hid (HT3.out.step hb4 (by have := HT3.out.size; exact this))
      obtain ⟨a4, k4, rfl⟩ := ho4.form
      have c9 := B4.at' 9 _ rfl
      have f9 := B4.fr 9
      have l4 := B4.lt
      have B5 := B4.set (.slice a4 st.length k4) (j := 9) (by simp [fS])
      have HB5 := Lib.hid (show Box (w4.setCell ⟨p0, 9, none⟩ (.slice a4 st.length k4)) p0 (fS (ptr q o) (ptr q2 o2) (ptr q3 o3) vr budget total (.slice a st.length c) sum (.slice a4 st.length k4) 1 left false) from B5)
      clear ho4 hb4 B4 B5 c4 c7 l3
      have hp3 : p0 < w3.heap.size := HB3.out.lt
      have HT5 := Lib.hid (HT4.out.setCell (a := ⟨p0, 9, none⟩) (.inl rfl) (.slice a4 st.length k4))
      have HO5 := Lib.hid ((HO4.out.rd : Ints w4 _ st).two ((Two.refl p0 p0 w4).setCell (a := ⟨p0, 9, none⟩) (.inl rfl) (.slice a4 st.length k4)) (off_owns HO4.out.1 hp3 hp3))
      have HGE := Lib.hid (fun b (e : (Value.slice a4 st.length k4).ownBlock = some b) => (HO4.out.1.lt b e).1)
      go_wp2
      go_ret
      refine ⟨fun _ => ⟨_, rfl, HB5.out, HO5.out, fun b e => ?_, ?_⟩, fun h => absurd HX.out h⟩
      · have h1 := HGE.out b e
        have h2 := HB2.out.size
        have h3 := HT3.out.size
        omega
      · have h2 := HB2.out
        have h5 := HT5.out
        exact ⟨h5.os.trans h2.os, h5.tape.trans h2.tape, h5.output.trans h2.output, Nat.le_trans h2.size h5.size, fun k hk hor => (h5.block k (Nat.lt_of_lt_of_le hk h2.size) (by omega) (by omega)).trans (h2.block k hk)⟩
    · have e1 : decide (g.tol < gr) = true := decide_eq_true (by omega)
      clear GI B2
      have HX := Lib.hid (show ¬ planP x p g st from fun h => hgt (by rw [HGR.out, HS.out]; exact h.2))
      go_wp2
      go_ret
      exact ⟨fun h => absurd h HX.out, fun _ => ⟨rfl, HB2.out⟩⟩
  · have he := hno hok
    subst he
    have HOK := Lib.hid hok
    clear hyes hno hok
    have HX := Lib.hid (show ¬ planP x p g st from fun h => HOK.out (by rw [HS.out]; exact h.1))
    go_wp2
    go_ret
    exact ⟨fun h => absurd h HX.out, fun _ => ⟨rfl, HB1.out⟩⟩
end Go.Proofs.YtenedpboehkmjaaGreat
