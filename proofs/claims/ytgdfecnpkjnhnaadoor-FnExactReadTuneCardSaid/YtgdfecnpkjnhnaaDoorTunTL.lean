/- The text of a tune. No program in sight. -/
import Derived.Test.YtgdfecnpkjnhnaaDoorListL
import Derived.Test.YtgdfecnpkjnhnaaDoorValidTun
set_option linter.unusedSimpArgs false
set_option linter.unnecessarySimpa false
set_option linter.unusedVariables false
set_option maxRecDepth 100000
namespace Go.Proofs.YtgdfecnpkjnhnaaDoor
open Go.RowKit

/-- The names of the twelve notes. -/
def noteNames : List ByteArray := [⟨#[99]⟩, ⟨#[99, 115]⟩, ⟨#[100]⟩, ⟨#[100, 115]⟩, ⟨#[101]⟩, ⟨#[102]⟩, ⟨#[102, 115]⟩, ⟨#[103]⟩, ⟨#[103, 115]⟩, ⟨#[97]⟩, ⟨#[97, 115]⟩, ⟨#[98]⟩]
def nameAt (m : Nat) : ByteArray := noteNames.getD m ⟨#[]⟩
theorem bsize (s : ByteArray) : s.data.toList.length = s.size := by cases s; rfl
theorem lt12 {m : Nat} (h : m < 12) : m = 0 ∨ m = 1 ∨ m = 2 ∨ m = 3 ∨ m = 4 ∨ m = 5 ∨ m = 6 ∨ m = 7 ∨ m = 8 ∨ m = 9 ∨ m = 10 ∨ m = 11 := by omega
theorem nameAt_size {m : Nat} (h : m < 12) : (nameAt m).size ≤ 2 := by
  rcases lt12 h with rfl | rfl | rfl | rfl | rfl | rfl | rfl | rfl | rfl | rfl | rfl | rfl <;> decide
/-- The twelve names lie in a fresh box. -/
theorem nameAt_cell (w : World) (e : TypeId) {m : Nat} (h : m < 12) :
    (w.alloc (.cells #[.string ⟨#[99]⟩, .string ⟨#[99, 115]⟩, .string ⟨#[100]⟩, .string ⟨#[100, 115]⟩, .string ⟨#[101]⟩, .string ⟨#[102]⟩, .string ⟨#[102, 115]⟩, .string ⟨#[103]⟩, .string ⟨#[103, 115]⟩, .string ⟨#[97]⟩, .string ⟨#[97, 115]⟩, .string ⟨#[98]⟩] e)).cell? ⟨w.heap.size, m, none⟩ = some (.string (nameAt m)) := by
  rcases lt12 h with rfl | rfl | rfl | rfl | rfl | rfl | rfl | rfl | rfl | rfl | rfl | rfl <;> simp [go_sem] <;> rfl
/-- The name of a note. -/
def noteL (n : Nat) : List UInt8 := (nameAt (n % 12)).data.toList ++ Lib.itoa (((n / 12 : Nat) : Int) - 1)
def noteT (n : Nat) : ByteArray := bytesB (noteL n)
theorem noteT_eq (n : Nat) : nameAt (n % 12) ++ decB (((n / 12 : Nat) : Int) - 1) = noteT n := by
  unfold noteT noteL decB
  rw [← bytesB_app, bytesB_of]
theorem small64 {n : Int} (h : -1 ≤ n) (h2 : n ≤ 1000000000000) : I64 n := by simp only [I64, Lit.wf, IntKind.min, IntKind.max, IntKind.signed, IntKind.bits]; simp; omega
theorem noteL_len {n : Nat} (h : n ≤ 127) : (noteL n).length ≤ 23 := by
  unfold noteL
  have h1 := nameAt_size (m := n % 12) (by omega)
  have h2 := itoa_len (n := ((n / 12 : Nat) : Int) - 1) (small64 (by omega) (by omega))
  rw [List.length_append]
  have := bsize (nameAt (n % 12))
  omega
/-- The text of a tone. -/
def tonL (x : Ton) : List UInt8 := noteL x.note.toNat ++ [64] ++ Lib.itoa x.start ++ [43] ++ Lib.itoa x.len
theorem tonL_len {x : Ton} (h : x.note.toNat ≤ 127) (h1 : I64 x.start) (h2 : I64 x.len) : (tonL x).length ≤ 67 := by
  unfold tonL
  have := noteL_len h; have := itoa_len h1; have := itoa_len h2
  simp only [List.length_append, List.length_cons, List.length_nil]
  omega
theorem tonT_eq (x : Ton) : noteT x.note.toNat ++ (⟨#[64]⟩ : ByteArray) ++ decB x.start ++ (⟨#[43]⟩ : ByteArray) ++ decB x.len = bytesB (tonL x) := by
  unfold noteT decB tonL
  rw [show (⟨#[64]⟩ : ByteArray) = bytesB [64] from rfl, show (⟨#[43]⟩ : ByteArray) = bytesB [43] from rfl, bytesB_app, bytesB_app, bytesB_app, bytesB_app]
/-- The text of a name and tones. -/
def tunL (nm : ByteArray) (xs : List Ton) : List UInt8 := nm.data.toList ++ xs.flatMap fun t => 32 :: tonL t
theorem tunL_nil (nm : ByteArray) : bytesB (tunL nm []) = nm := by unfold tunL; simp [bytesB_of]
theorem tunL_snoc (nm : ByteArray) (xs : List Ton) (t : Ton) : tunL nm (xs ++ [t]) = tunL nm xs ++ ([32] ++ tonL t) := by unfold tunL; simp
theorem tunT_snoc (nm : ByteArray) (xs : List Ton) (t : Ton) : bytesB (tunL nm xs) ++ ((⟨#[32]⟩ : ByteArray) ++ noteT t.note.toNat ++ (⟨#[64]⟩ : ByteArray) ++ decB t.start ++ (⟨#[43]⟩ : ByteArray) ++ decB t.len) = bytesB (tunL nm (xs ++ [t])) := by
  rw [tunL_snoc]
  unfold noteT decB tonL
  rw [show (⟨#[32]⟩ : ByteArray) = bytesB [32] from rfl, show (⟨#[64]⟩ : ByteArray) = bytesB [64] from rfl, show (⟨#[43]⟩ : ByteArray) = bytesB [43] from rfl, bytesB_app, bytesB_app, bytesB_app, bytesB_app, bytesB_app, bytesB_app]
  simp [List.append_assoc]
theorem tunL_join (nm : ByteArray) (xs : List Ton) : Lib.join (nm.data.toList :: xs.map tonL) [32] = tunL nm xs := by
  rw [Lib.join_cons]
  unfold tunL
  simp [Lib.joinTail, List.flatMap_def, Function.comp_def]
theorem tunL_len (nm : ByteArray) (xs : List Ton) (h : ∀ x ∈ xs, x.note.toNat ≤ 127 ∧ I64 x.start ∧ I64 x.len) : (tunL nm xs).length ≤ nm.size + 68 * xs.length := by
  unfold tunL
  rw [List.length_append]
  have e := bsize nm
  rw [e]
  suffices (xs.flatMap fun t => 32 :: tonL t).length ≤ 68 * xs.length by omega
  clear e
  induction xs with
  | nil => simp
  | cons x xs ih =>
    have h1 := h x (by simp)
    have h2 := tonL_len h1.1 h1.2.1 h1.2.2
    have h3 := ih fun y hy => h y (by simp [hy])
    simp only [List.flatMap_cons, List.length_append, List.length_cons] at *
    omega
noncomputable def tunT (x : TunD) : ByteArray := if validTunB x then bytesB (tunL x.name x.tones) else bytesB []
theorem tunT_yes {x : TunD} (h : validTunB x = true) : tunT x = bytesB (tunL x.name x.tones) := by unfold tunT; rw [h]; rfl
theorem tunT_no {x : TunD} (h : validTunB x = false) : tunT x = bytesB [] := by unfold tunT; rw [h]; rfl

end Go.Proofs.YtgdfecnpkjnhnaaDoor
