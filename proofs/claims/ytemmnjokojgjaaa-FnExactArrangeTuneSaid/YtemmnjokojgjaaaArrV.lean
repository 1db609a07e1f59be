/- Arranging: what it answers. Plain. -/
import Derived.Test.YtemmnjokojgjaaaArrL
import Derived.Test.YtemmnjokojgjaaaTuneOf
set_option linter.unusedSimpArgs false
set_option linter.unnecessarySimpa false
set_option linter.unusedVariables false
set_option maxRecDepth 100000
namespace Go.Proofs.Ytemmnjokojgjaaa
open Go.RowKit

theorem tones_of_stc {d : List Ton} (h : Stc d) (ho : ∀ y ∈ d, TonOk y) : TonesOk d := by
  intro k hk hk2
  refine ⟨ho _ (List.getElem_mem hk), fun h0 => ?_⟩
  unfold Stc at h
  rw [List.pairwise_iff_getElem] at h
  exact h (k - 1) k (by omega) hk (by omega)
theorem dst_perm {a b : List Ton} (p : a.Perm b) (h : Dst b) : Dst a := by
  unfold Dst at *
  exact (p.pairwise_iff (fun hxy e => hxy ⟨e.1.symm, e.2.symm⟩)).2 h
theorem ar_stc {d : List Ton} (h : Srt d) (hd : Dst d) : Stc d := by
  unfold Srt at h
  unfold Dst at hd
  unfold Stc
  rw [List.pairwise_iff_getElem] at *
  intro i j hi hj hij
  have h1 := h i j hi hj hij
  have h2 := hd i j hi hj hij
  unfold leT before at h1
  unfold before
  omega
/-- The tones that are kept, in order, are a tune. -/
theorem ar_valid {x : TunD} {ns : List Int} {b : Int} (hx : validTunB x = true) (hs : SetIn ns) {d : List Ton} (p : d.Perm (arTo ns b x.tones x.tones.length).1) (s : Srt d) : validTunB ⟨x.name, d⟩ = true := by
  have ht : ∀ y ∈ x.tones, TonOk y := fun y hy => by obtain ⟨k, hk, rfl⟩ := List.getElem_of_mem hy; exact tun_tone hx hk
  have h := ar_ok (b := b) hs ht x.tones.length
  have hl := tun_len hx
  have hle := h.le
  refine validTunB_iff.2 ⟨(validTunB_iff.1 hx).name, ?_, tones_of_stc (ar_stc s (dst_perm p h.dst)) (fun y hy => h.ok y (p.mem_iff.1 hy))⟩
  have := p.length_eq
  simp only at this ⊢
  omega
noncomputable def arK (x : TunD) (ns : List Int) (b : Int) : List Ton := (arTo ns b x.tones x.tones.length).1
noncomputable def arM (x : TunD) (ns : List Int) (b : Int) : Int := mvCnt (arTo ns b x.tones x.tones.length).2 (arTo ns b x.tones x.tones.length).1.length
noncomputable def arD (x : TunD) (ns : List Int) (b : Int) : Int := (x.tones.length : Int) - (arTo ns b x.tones x.tones.length).1.length
noncomputable def arT (x : TunD) (ns : List Int) (b : Int) : TunD := toV x.name (arK x ns b)
theorem ar_bd {x : TunD} {ns : List Int} {b : Int} (hx : validTunB x = true) (hs : SetIn ns) : 0 ≤ arM x ns b ∧ arM x ns b ≤ 128 ∧ 0 ≤ arD x ns b ∧ arD x ns b ≤ 128 := by
  have ht : ∀ y ∈ x.tones, TonOk y := fun y hy => by obtain ⟨k, hk, rfl⟩ := List.getElem_of_mem hy; exact tun_tone hx hk
  have h := ar_ok (b := b) hs ht x.tones.length
  have hl := tun_len hx
  have hle := h.le
  have := mv_bd (arTo ns b x.tones x.tones.length).2 (arTo ns b x.tones x.tones.length).1.length
  unfold arM arD
  omega
theorem toV_len (n : ByteArray) (d : List Ton) : (toV n d).tones.length ≤ d.length := by
  unfold toV; split
  · have := (sortT_perm d).length_eq; simp only; omega
  · simp
/-- What ArrangeTune answers. -/
noncomputable def atV (x : TunD) (ns : List Int) (b : Int) : TunD := if askC x ns b = 0 then arT x ns b else ⟨.empty, []⟩
noncomputable def atM (x : TunD) (ns : List Int) (b : Int) : Int := if askC x ns b = 0 then arM x ns b else 0
noncomputable def atD (x : TunD) (ns : List Int) (b : Int) : Int := if askC x ns b = 0 then arD x ns b else 0
theorem at_no {x : TunD} {ns : List Int} {b : Int} (h : ¬ askC x ns b = 0) : atV x ns b = ⟨.empty, []⟩ ∧ atM x ns b = 0 ∧ atD x ns b = 0 := ⟨if_neg h, if_neg h, if_neg h⟩
theorem at_yes {x : TunD} {ns : List Int} {b : Int} (h : askC x ns b = 0) : atV x ns b = arT x ns b ∧ atM x ns b = arM x ns b ∧ atD x ns b = arD x ns b := ⟨if_pos h, if_pos h, if_pos h⟩
theorem at_len (x : TunD) (ns : List Int) (b : Int) : (atV x ns b).tones.length ≤ 1048576 := by
  unfold atV; split
  · rename_i h
    obtain ⟨hx, hs, _⟩ := ask_zero.1 h
    have ht : ∀ y ∈ x.tones, TonOk y := fun y hy => by obtain ⟨k, hk, rfl⟩ := List.getElem_of_mem hy; exact tun_tone hx hk
    have h1 := ar_ok (b := b) (set_in hs) ht x.tones.length
    have hl := tun_len hx
    have := toV_len x.name (arK x ns b)
    have h2 := h1.le
    unfold arK at this
    unfold arT arK
    omega
  · simp
/-- The cost of a shift. -/
noncomputable def arC (x : TunD) (ns : List Int) (b : Int) : Int := arM x ns b + 10 * arD x ns b
noncomputable def acoV (x : TunD) (ns : List Int) (b : Int) : Int := if askC x ns b = 0 then arC x ns b else 0
end Go.Proofs.Ytemmnjokojgjaaa
