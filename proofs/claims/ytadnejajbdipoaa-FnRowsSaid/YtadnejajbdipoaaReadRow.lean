/- Contracts of ReadRow of both packages. -/
import Derived.Test.YtadnejajbdipoaaStay
import Derived.Test.YtadnejajbdipoaaComp
set_option linter.unusedSimpArgs false
set_option linter.unnecessarySimpa false
set_option linter.unusedVariables false
set_option maxRecDepth 100000
namespace Go.Proofs.Ytadnejajbdipoaa
open Go.RowKit

def readL (s : ByteArray) (k : Nat) : List Int := (List.range k).map fun i => valN (byteAt s i)
theorem readL_len (s : ByteArray) (k : Nat) : (readL s k).length = k := by simp [readL]
theorem readL_step (s : ByteArray) (k : Nat) : readL s (k + 1) = readL s k ++ [valN (byteAt s k)] := by simp [readL, List.range_succ]
theorem readL_i64 (s : ByteArray) (k : Nat) : ∀ x ∈ readL s k, I64 x := by
  intro x hx
  obtain ⟨i, _, rfl⟩ := List.mem_map.1 hx
  have := val_bd (byteAt s i)
  simp only [I64, Lit.wf, IntKind.min, IntKind.max, IntKind.signed, IntKind.bits]
  simp
  omega
noncomputable def readV (s : ByteArray) : List Int := if RowOk (readL s s.size) then readL s s.size else []
noncomputable def readB (s : ByteArray) : Bool := rowB (readL s s.size)
theorem read_yes {s : ByteArray} (h : RowOk (readL s s.size)) : readV s = readL s s.size ∧ readB s = true := ⟨if_pos h, rowB_yes h⟩
theorem read_no {s : ByteArray} (h : ¬ RowOk (readL s s.size)) : readV s = [] ∧ readB s = false := ⟨if_neg h, rowB_no h⟩
theorem readV_len (s : ByteArray) : (readV s).length ≤ 1048576 := by
  unfold readV; split
  · rename_i h; have := h.stage; unfold stage at this; omega
  · simp

set_option maxHeartbeats 2000000 in
theorem implReadRow_any (s : ByteArray) (w : World) (hs : s.size ≤ 1048576) :
    Calls Try.prog 31 #[.string s] w fun e w' => ∃ v, e = .returned (.tuple #[v, .bool (readB s)]) ∧ OwnInts w.heap.size w'.heap.size w' v (readV s) ∧ Below w.heap.size w w' := by
  have hconv := run_bytes_of_string (P := Try.prog) w 9 22 5 s Try.underlying9 Try.underlying22 Try.underlying5
  have hz : s.size ≤ grownCap w s.size 0 5 := grownCap_ge w _ _ _
  have hcell : ∀ k, k < s.size → (w.drew.alloc (.cells (bytesRow s (grownCap w s.size 0 5)) 5 ((bytesRow s (grownCap w s.size 0 5)).size, (bytesRow s (grownCap w s.size 0 5)).size + 1))).cell? ⟨w.heap.size, k, none⟩ = some (.int .u8 (byteAt s k)) := fun k hk => by
    rw [byteAt_eq s k hk]
    exact (World.cell?_alloc_mark _ _ _ _ k).trans (bytesRow_at s _ k hk)
  have HC := Lib.hid hcell; clear hcell
  generalize grownCap w s.size 0 5 = cap at hconv hz HC
  generalize (bytesRow s cap) = row at hconv HC
  go_enter Try.func31, Try.ntmps31
  go_wp2_with fail
  go_loopw [4, 10, 6] (fun o i _ wr => ∃ (k : Nat) (a' : Option Addr) (c' : Nat), k ≤ s.size ∧ i = .int .i64 (k : Int) ∧ o = .slice a' k c' ∧ wr.ownsRow (w.heap.size + 1) 2 1 (.slice a' k c') k ((readL s k).map (Value.int .i64)) ∧ (∀ k, k < s.size → wr.cell? ⟨w.heap.size, k, none⟩ = some (.int .u8 (byteAt s k))) ∧ Below w.heap.size w wr ∧ w.heap.size + 1 ≤ wr.heap.size) (fun _ i _ _ => s.size - (intOf i).toNat)
  case atStart => exact ⟨0, none, 0, Nat.zero_le _, by go_num, rfl, by simpa [readL] using owns_nil _ _ _ _, HC.out, ((Below.refl _ _).drew).alloc (Nat.le_refl _) _, by simp⟩
  case round =>
    clear hconv HC
    obtain ⟨k, a', c', hk, rfl, rfl, ho, hcl, hb, hzr⟩ := hrel
    have HO := Lib.hid ho; have HC2 := Lib.hid hcl; clear ho
    by_cases hlt : k < s.size
    · have hck := hcl k hlt
      clear hcl
      have hv := val_bd (byteAt s k)
      obtain ⟨b0, b255⟩ := byteAt_bd s k
      have hix := val_index b0 b255
      obtain ⟨v, hvv⟩ : ∃ v, v = valN (byteAt s k) := ⟨_, rfl⟩
      have HV := Lib.hid hvv
      rw [← hvv] at hv hix
      obtain ⟨v0, v12⟩ := hv
      have IX := Lib.hid (show Lib.indexByte signB.data.toList (byteAt s k).toNat.toUInt8 = v - 1 by omega)
      generalize byteAt s k = c at hck IX
      have w0' : IntKind.i64.wrap v = v := IntWalk.i64_in _ (by omega)
      clear hvv hix
      go_wp2_with fail
      refine (Try.strings_IndexByte signB c _).mono ?_
      rintro e w1 ⟨rfl, rfl⟩
      rw [IX.out]
      go_wp2_with (at_builtin; refine append_one rfl _ _ 24 rfl (w.heap.size + 1) 2 (.int .i64 0) 1 8 Try.underlying24 info_int rfl (by decide) _ k _ rfl HO.out [.int .i64 v] rfl (by simp [Value.oneCell']) rfl (by omega) (by decide) (by omega) ?_)
      intro a5 c5 w5 ho5 _ hb5
      have HO5 := Lib.hid ho5; have HB5 := Lib.hid (hb.trans (hb5.mono (by omega)))
      have HC5 := Lib.hid (show ∀ k, k < s.size → w5.cell? ⟨w.heap.size, k, none⟩ = some (.int .u8 (byteAt s k)) from fun k hk => cellL hb5 (by simp) (HC2.out k hk))
      have hz5 := hb5.size
      clear ho5 hb5 w0'
      go_wp2
      go_roundw
      case rel => exact ⟨k + 1, a5, c5, by omega, by go_num, rfl, by rw [readL_step, List.map_append, ← HV.out]; exact HO5.out, HC5.out, HB5.out, by omega⟩
      case measure => simp [intOf] <;> omega
    · obtain rfl : k = s.size := by omega
      have hin : Ints wr (.slice a' s.size c') (readL s s.size) := by have := Ints.of_owns (zs := readL s s.size) (by rw [readL_len]; exact HO.out); exact this
      have HI := Lib.hid hin; clear hin hcl
      have hzw := hb.size
      by_cases hr : RowOk (readL s s.size)
      · obtain ⟨e1, e2⟩ := read_yes hr
        have E1 := Lib.hid e1; have E2 := Lib.hid e2; have G := Lib.hid (rowB_yes hr); clear e1 e2 hr
        go_wp2_with fail
        refine (implValidRow_any _ (readL s s.size) _ HI.out (readL_i64 _ _) (by rw [readL_len]; exact hs)).mono ?_
        rw [G.out]
        rintro e w1 ⟨rfl, hbq⟩
        have HO2 := Lib.hid (owns_base (base' := w.heap.size) (owns_mono HO.out hbq) (by omega))
        go_wp2
        go_ret2
        exact ⟨_, by rw [E2.out]; rfl, by rw [E1.out]; exact (OwnInts.mk' (by rw [readL_len]; exact HO2.out)), hb.trans (hbq.mono hzw)⟩
      · obtain ⟨e1, e2⟩ := read_no hr
        have E1 := Lib.hid e1; have E2 := Lib.hid e2; have G := Lib.hid (rowB_no hr); clear e1 e2 hr
        go_wp2_with fail
        refine (implValidRow_any _ (readL s s.size) _ HI.out (readL_i64 _ _) (by rw [readL_len]; exact hs)).mono ?_
        rw [G.out]
        rintro e w1 ⟨rfl, hbq⟩
        go_wp2
        go_ret2
        exact ⟨_, by rw [E2.out]; rfl, by rw [E1.out]; exact OwnInts.nil _ _ _, hb.trans (hbq.mono hzw)⟩


end Go.Proofs.Ytadnejajbdipoaa
