import Derived.Test.YtemmnjokojgjaaaFfZ8
import Derived.Test.YtemmnjokojgjaaaFfZ16
import Derived.Test.YtemmnjokojgjaaaFfZ17
import Derived.Test.YtemmnjokojgjaaaFfZ14
import Derived.Test.YtemmnjokojgjaaaFfZ15
/- The law FnFewest returns true and leaves memory as it was. -/
set_option linter.unusedSimpArgs false
set_option linter.unnecessarySimpa false
set_option linter.unusedVariables false
set_option maxRecDepth 100000
namespace Go.Proofs.Ytemmnjokojgjaaa
open Go.RowKit

theorem i64_smC {n : Int} (h0 : -1000000000 ≤ n) (h1 : n ≤ 1000000000) : I64 n := by simp only [I64, Lit.wf, IntKind.min, IntKind.max, IntKind.signed, IntKind.bits]; simp; omega
theorem smT_okC {x : TunD} (h : smT x) : x.ok := ⟨by have := h.name; unfold maxLen; omega, fun l hl => by
  obtain ⟨a1, a2, a3⟩ := h.tones l hl
  exact ⟨i64_smC (by omega) (by omega), i64_smC (by omega) (by omega), i64_smC (by omega) (by omega)⟩⟩
theorem smS_okC {xs : List Int} (h : smS xs) : ∀ x ∈ xs, I64 x := fun x hx => by have := h.1 x hx; exact i64_smC (by omega) (by omega)
/-- The law's rows, one after the other. -/
def withsL (xs ex : List Int) : List Int := ex.foldl (fun l n => withL l n false) xs
theorem withs_mem : ∀ (ex xs : List Int) (y : Int), y ∈ withsL xs ex ↔ y ∈ xs ∨ y ∈ ex
  | [], xs, y => by simp [withsL]
  | n :: ex, xs, y => by
    have ih := withs_mem ex (withL xs n false) y
    have e : withsL xs (n :: ex) = withsL (withL xs n false) ex := rfl
    rw [e, ih, withL_mem, List.mem_cons]
    constructor
    · rintro ((⟨h, _⟩ | ⟨_, h⟩) | h)
      · exact .inl h
      · exact .inr (.inl h)
      · exact .inr (.inr h)
    · rintro (h | h | h)
      · by_cases e : y = n
        · exact .inl (.inr ⟨rfl, e⟩)
        · exact .inl (.inl ⟨h, e⟩)
      · exact .inl (.inr ⟨rfl, h⟩)
      · exact .inr h
theorem withs_len : ∀ (ex xs : List Int), (withsL xs ex).length ≤ xs.length + ex.length
  | [], xs => by simp [withsL]
  | n :: ex, xs => by
    have e : withsL xs (n :: ex) = withsL (withL xs n false) ex := rfl
    have := withs_len ex (withL xs n false)
    have := withL_len xs n false
    rw [e, List.length_cons]; omega
theorem withs_step {ex : List Int} {k : Nat} (h : k < ex.length) (xs : List Int) : withsL xs (ex.take (k + 1)) = withL (withsL xs (ex.take k)) ex[k] false := by
  unfold withsL; rw [List.take_succ_eq_append_getElem h, List.foldl_append]; rfl

theorem exV_127 {ns : List Int} {b : Int} {zs : List Int} {y : Int} (h : y ∈ exV ns b zs) : 0 ≤ y ∧ y ≤ 127 := by
  by_cases g : okZs b zs
  · rw [exV_yes g, notesOfL_mem] at h
    unfold exL at h
    obtain ⟨z, hz, rfl⟩ := List.mem_map.1 (List.mem_filter.1 h).1
    exact g z hz
  · rw [exV_no g] at h; cases h
theorem few_127 (ns zs : List Int) : ∀ k : Nat, ∀ y ∈ (few ns zs k).2.2, 0 ≤ y ∧ y ≤ 127
  | 0, y, h => by rw [few_zero] at h; cases h
  | k + 1, y, h => by
    by_cases g : fewBetter ns zs k (few ns zs k) = true
    · rw [few_yes g] at h; exact exV_127 h
    · rw [few_no g] at h; exact few_127 ns zs k y h
theorem fe_127 {x : TunD} {ns : List Int} {y : Int} (h : y ∈ feV x ns) : 0 ≤ y ∧ y ≤ 127 := by
  unfold feV at h
  split at h
  · exact few_127 _ _ _ y h
  · cases h
theorem fe_len2 (x : TunD) (ns : List Int) : (feV x ns).length ≤ x.tones.length := by
  unfold feV
  split
  · have h1 := few_len ns (sel allT x.tones) 49
    have h2 := sel_len allT x.tones x.tones.length
    rw [sel_all _ _ (Nat.le_refl _)] at h2
    omega
  · simp



set_option maxHeartbeats 4000000 in
theorem lawFewest (w : World) (v0 : Value) (x0 : List Int) (h0 : Byts w v0 x0) (o0 : okByts x0) (v1 : Value) (x1 : List Int) (h1 : Byts w v1 x1) (o1 : okByts x1) :
    Calls Try.prog 7 #[v0, v1] w fun e w' => e = .returned (.bool true) ∧ Below w.heap.size w w' := by
  obtain ⟨a0, ca, rfl, hca, hcm, _⟩ := id h0
  obtain ⟨b0, cb, rfl, hcb, hcm2, _⟩ := id h1
  have hm : x0.length ≤ maxLen := by omega
  have hm2 : x1.length ≤ maxLen := by omega
  unfold maxLen at hm hm2
  clear hca hcm hcb hcm2
  by_cases gl : x0.length ≤ 1048576
  rotate_left
  · have d1 : decide (1048576 < (x0.length : Int)) = true := decide_eq_true (by omega)
    go_enter Try.func7, Try.ntmps7
    go_wp2_with fail
    refine (b10Long_any a0 x0.length ca _ (by omega)).mono ?_
    rw [d1]
    rintro e w' ⟨rfl, rfl⟩
    go_wp2
    go_ret
    exact ⟨rfl, Below.refl _ _⟩
  have d1 : decide (1048576 < (x0.length : Int)) = false := decide_eq_false (by omega)
  by_cases gl2 : x1.length ≤ 1048576
  rotate_left
  · have d2 : decide (1048576 < (x1.length : Int)) = true := decide_eq_true (by omega)
    go_enter Try.func7, Try.ntmps7
    go_wp2_with fail
    refine (b10Long_any a0 x0.length ca _ (by omega)).mono ?_
    rw [d1]
    rintro e w' ⟨rfl, rfl⟩
    go_wp2_with fail
    refine (b10Long_any b0 x1.length cb _ (by omega)).mono ?_
    rw [d2]
    rintro e w' ⟨rfl, rfl⟩
    go_wp2
    go_ret
    exact ⟨rfl, Below.refl _ _⟩
  have d2 : decide (1048576 < (x1.length : Int)) = false := decide_eq_false (by omega)
  have HY := Lib.hid h1
  go_enter Try.func7, Try.ntmps7
  go_wp2_with fail
  refine (b10Long_any a0 x0.length ca _ (by omega)).mono ?_
  rw [d1]
  rintro e w' ⟨rfl, rfl⟩
  go_wp2_with fail
  refine (b10Long_any b0 x1.length cb _ (by omega)).mono ?_
  rw [d2]
  rintro e w' ⟨rfl, rfl⟩
  go_wp2_with fail
  refine (DrawBestShift_any w _ x0 h0 o0).mono ?_
  rintro e w1 ⟨vx, vn, x, ns, rfl, own, sm, hns, sms, hb⟩
  obtain ⟨a1, c1, rfl⟩ := own.form
  obtain ⟨a2, c2, rfl⟩ := hns.form
  have RX := Lib.hid own.rd
  have RN := Lib.hid hns.rd
  have OX := Lib.hid (smT_okC sm)
  have ON := Lib.hid (smS_okC sms)
  have zx : x.tones.length ≤ 1048576 := by have := sm.len; omega
  have zx2 : x.tones.length ≤ 200 := by have := sm.len; omega
  have zn : ns.length ≤ 1048576 := by have := sms.2; omega
  have zn2 : ns.length ≤ 200 := by have := sms.2; omega
  have SS := Lib.hid sms
  have hz := hb.size
  have HB := Lib.hid hb
  clear own sm hns sms hb h0 h1 gl gl2 d1 d2
  obtain ⟨p, hp⟩ : ∃ p, p = w1.heap.size := ⟨_, rfl⟩
  have BX := Lib.hid (Box.alloc w1 [.string x.name, .slice a1 x.tones.length c1] 29 p hp.symm)
  have hba := belowA w1 (.cells #[.string x.name, .slice a1 x.tones.length c1] 29)
  have RX := Lib.hid (RX.out.mono hba)
  have RN := Lib.hid (RN.out.mono hba)
  have HB := Lib.hid (HB.out.trans (hba.mono HB.out.size))
  clear hba hz
  have ua := BX.out.at' 0 _ rfl
  have ub := BX.out.at' 1 _ rfl
  have ul := BX.out.lt
  go_wp2_with fail
  rw [← hp]
  clear hp
  go_wp2_with fail
  refine (implBestShift_any _ x _ ns _ RX.out OX.out zx RN.out ON.out zn).mono ?_
  have HBE := Lib.hid (fun h => best_fn (x := x) (ns := ns) h)
  have HBB := Lib.hid (fun h => best_bad (x := x) (ns := ns) h)
  have HFE := Lib.hid (fun h => few_fn (x := x) (ns := ns) h)
  obtain ⟨BN, hBN⟩ : ∃ b, b = bsN x ns := ⟨_, rfl⟩
  obtain ⟨BL, hBL⟩ : ∃ b, b = bsL x ns := ⟨_, rfl⟩
  obtain ⟨AC, hAC⟩ : ∃ b, b = askC x ns 0 := ⟨_, rfl⟩
  rw [← hBN, ← hBL] at HBE HBB ⊢
  rw [← hBL] at HFE
  rw [← hAC] at HBE HBB HFE ⊢
  clear hBN hBL hAC
  rintro e w2 ⟨rfl, hb⟩
  have HB := Lib.hid (HB.out.trans (hb.mono HB.out.size))
  have BX := Lib.hid (BX.out.mono hb)
  have RX := Lib.hid (RX.out.mono hb)
  have RN := Lib.hid (RN.out.mono hb)
  clear ua ub ul
  clear hb
  by_cases hc : AC = 0
  rotate_left
  · obtain ⟨e1, e2⟩ := HBB.out hc
    have d3 : (AC != 0) = true := by simpa using hc
    have d4 : (BN == 0) = true := by simpa using e1
    have d5 : (BL == 0) = true := by simpa using e2
    clear e1 e2 hc HBE HBB HFE
    go_wp2
    go_ret
    exact ⟨rfl, HB.out⟩
  obtain ⟨f1, f2, f3, f4, f5⟩ := HBE.out hc
  have F1 := Lib.hid f1; have F2 := Lib.hid f2; have F5 := Lib.hid f5
  subst hc
  clear f1 f2 f5 HBE HBB
  have ua := BX.out.at' 0 _ rfl
  have ub := BX.out.at' 1 _ rfl
  have ul := BX.out.lt
  go_wp2_with fail
  refine (implArrangeCost_any _ x _ ns BN _ RX.out OX.out zx RN.out ON.out zn (i64_smC (by omega) (by omega))).mono ?_
  rw [F1.out, F2.out]
  rintro e w3 ⟨rfl, hb⟩
  have HB := Lib.hid (HB.out.trans (hb.mono HB.out.size))
  have BX := Lib.hid (BX.out.mono hb)
  have RX := Lib.hid (RX.out.mono hb)
  have RN := Lib.hid (RN.out.mono hb)
  clear ua ub ul
  clear hb
  have ua := BX.out.at' 0 _ rfl
  have ub := BX.out.at' 1 _ rfl
  have ul := BX.out.lt
  go_wp2_with fail
  refine wp_region_ord [(0, true), (1, true), (2, true), (3, false), (4, true), (5, false), (6, true), (7, true), (8, true), (9, true), (10, true)] (none) (by kernel_rfl) (by kernel_rfl) ?_
  (repeat (with_reducible refine wpOrd_soft (fun K hK => ?_); simp only [List.getElem?_toArray, List.getElem?_cons_zero, List.getElem?_cons_succ]; first | (go_simp; refine hK _ ?_) | (simp only [undef]; go_simp; refine hK _ ?_); clear hK K))
  (with_reducible refine wpOrd_hard ?_; simp only [List.getElem?_toArray, List.getElem?_cons_zero, List.getElem?_cons_succ])
  go_wp2_with fail
  have hdr : Below w3.heap.size w3 w3.drew := ((Q.refl w3).drew).below _
  refine (b10At_any _ x1 0 49 _ ((HY.out.mono HB.out).mono hdr) o1 (by omega) (by omega) (by omega)).mono ?_
  rintro e w' ⟨r, rfl, r0, r1, rfl⟩
  have wr24 : IntKind.i64.wrap (r - 24) = r - 24 := IntWalk.i64_in _ (by omega)
  go_wp2_with fail
  refine ⟨grown_of_below hdr, ?_⟩
  (repeat (with_reducible refine wpOrd_soft (fun K hK => ?_); simp only [List.getElem?_toArray, List.getElem?_cons_zero, List.getElem?_cons_succ]; first | (go_simp; refine hK _ ?_) | (simp only [undef]; go_simp; refine hK _ ?_); clear hK K))
  (with_reducible refine wpOrd_hard ?_; simp only [List.getElem?_toArray, List.getElem?_cons_zero, List.getElem?_cons_succ])
  go_wp2_with fail
  obtain ⟨s1, s2⟩ := F5.out (r - 24) (by omega) (by omega)
  refine (implArrangeCost_any _ x _ ns (r - 24) _ (RX.out.mono hdr) OX.out zx (RN.out.mono hdr) ON.out zn (i64_smC (by omega) (by omega))).mono ?_
  rw [s1]
  obtain ⟨OT2, hOT⟩ : ∃ c, c = acoV x ns (r - 24) := ⟨_, rfl⟩
  rw [← hOT] at s2 ⊢
  clear hOT
  rintro e w4 ⟨rfl, hb⟩
  have st := undrew hb
  have HB := Lib.hid (HB.out.trans (st.mono HB.out.size))
  have BX := Lib.hid (BX.out.mono st)
  have RX := Lib.hid (RX.out.mono st)
  have RN := Lib.hid (RN.out.mono st)
  clear ua ub ul
  clear s1 hb hdr
  go_wp2_with fail
  refine ⟨grown_of_below st, ?_⟩
  (repeat (with_reducible refine wpOrd_soft (fun K hK => ?_); simp only [List.getElem?_toArray, List.getElem?_cons_zero, List.getElem?_cons_succ]; first | (go_simp; refine hK _ ?_) | (simp only [undef]; go_simp; refine hK _ ?_); clear hK K))
  (with_reducible refine wpOrd_nil ?_); refine NoPanic.normal ?_
  clear st
  have e1 : ¬ OT2 < BL := by omega
  clear s2
  have ua := BX.out.at' 0 _ rfl
  have ub := BX.out.at' 1 _ rfl
  have ul := BX.out.lt
  go_wp2_with fail
  refine (implFewestExtra_any _ x _ ns _ RX.out OX.out zx RN.out ON.out zn).mono ?_
  have hfl : (feV x ns).length ≤ 200 := by have := fe_len2 x ns; omega
  have HFI := Lib.hid (show ∀ y ∈ feV x ns, I64 y from fun y hy => by have := fe_127 hy; exact i64_smC (by omega) (by omega))
  obtain ⟨FC, hFC⟩ : ∃ c, c = feC x ns := ⟨_, rfl⟩
  obtain ⟨FV, hFV⟩ : ∃ c, c = feV x ns := ⟨_, rfl⟩
  obtain ⟨FS, hFS⟩ : ∃ c, c = feN x ns := ⟨_, rfl⟩
  rw [← hFC, ← hFV, ← hFS] at HFE
  rw [← hFV] at hfl HFI
  rw [← hFC, ← hFV, ← hFS]
  clear hFC hFV hFS
  rintro e w5 ⟨ve, rfl, own, hb⟩
  obtain ⟨a3, c3, rfl⟩ := own.form
  have RE := Lib.hid own.rd
  have HB := Lib.hid (HB.out.trans (hb.mono HB.out.size))
  have BX := Lib.hid (BX.out.mono hb)
  have RX := Lib.hid (RX.out.mono hb)
  have RN := Lib.hid (RN.out.mono hb)
  clear ua ub ul
  clear own hb
  by_cases hfc : FC = 0
  rotate_left
  · have e2 : (FC == 0) = false := by simpa using hfc
    clear hfc HFE
    go_wp2_with fail
    refine (DrawThinTune_any _ _ x1 (HY.out.mono HB.out) o1).mono ?_
    rintro e t1 ⟨vt, tx, rs, rfl, own, sm, hrs, hb⟩
    obtain ⟨ta, tc, rfl⟩ := own.form
    have RT := Lib.hid own.rd
    have OT := Lib.hid (smT_okC sm)
    have zt : tx.tones.length ≤ 1048576 := by have := sm.len; omega
    have IR := Lib.hid (i64_smC (n := rs) (by omega) (by omega))
    have HB := Lib.hid (HB.out.trans (hb.mono HB.out.size))
    clear own sm hb
    obtain ⟨tp, htp⟩ : ∃ p, p = t1.heap.size := ⟨_, rfl⟩
    have BT := Lib.hid (Box.alloc t1 [.string tx.name, .slice ta tx.tones.length tc] 29 tp htp.symm)
    have hba := belowA t1 (.cells #[.string tx.name, .slice ta tx.tones.length tc] 29)
    have RT := Lib.hid (RT.out.mono hba)
    have HB := Lib.hid (HB.out.trans (hba.mono HB.out.size))
    clear hba
    have ka := BT.out.at' 0 _ rfl
    have kb := BT.out.at' 1 _ rfl
    have kl := BT.out.lt
    go_wp2_with fail
    rw [← htp]
    clear htp
    go_wp2_with fail
    refine (implThinTune_any _ tx rs _ RT.out OT.out zt IR.out).mono ?_
    have HTF := Lib.hid (fun h => thin_fn (x := tx) (r := rs) h)
    have HTB := Lib.hid (fun h => thin_bad (x := tx) (r := rs) h)
    obtain ⟨Y, hY⟩ : ∃ Y, Y = thinV tx rs := ⟨_, rfl⟩
    have hyl : Y.tones.length ≤ 1048576 := by rw [hY]; exact thinV_len tx rs
    rw [← hY] at HTF HTB ⊢
    obtain ⟨RC, hRC⟩ : ∃ C, C = repC tx rs := ⟨_, rfl⟩
    rw [← hRC] at HTB HTF ⊢
    have HRC := Lib.hid hRC
    clear hY hRC
    rintro e t2 ⟨vy, rfl, own, hb⟩
    obtain ⟨ya, yc, rfl⟩ := own.form
    have RY := Lib.hid own.rd
    have HB := Lib.hid (HB.out.trans (hb.mono HB.out.size))
    have BT := Lib.hid (BT.out.mono hb)
    have RT := Lib.hid (RT.out.mono hb)
    clear ka kb kl
    clear own hb
    obtain ⟨yp, hyp⟩ : ∃ p, p = t2.heap.size := ⟨_, rfl⟩
    have BY := Lib.hid (Box.alloc t2 [.string Y.name, .slice ya Y.tones.length yc] 29 yp hyp.symm)
    have hba := belowA t2 (.cells #[.string Y.name, .slice ya Y.tones.length yc] 29)
    have RY := Lib.hid (RY.out.mono hba)
    have HB := Lib.hid (HB.out.trans (hba.mono HB.out.size))
    have BT := Lib.hid (BT.out.mono hba)
    have RT := Lib.hid (RT.out.mono hba)
    clear hba
    have ka := BT.out.at' 0 _ rfl
    have kb := BT.out.at' 1 _ rfl
    have kl := BT.out.lt
    have za := BY.out.at' 0 _ rfl
    have zb := BY.out.at' 1 _ rfl
    have zl := BY.out.lt
    by_cases hrc : RC = 0
    rotate_left
    · have e1 : (RC != 0) = true := by simpa using hrc
      have e3 : ((Y.tones.length : Int) == 0) = true := by rw [HTB.out hrc]; rfl
      clear hrc HTF HTB
      go_wp2_with fail
      rw [← hyp]
      clear hyp
      go_wp2
      go_ret
      exact ⟨rfl, HB.out⟩
    obtain ⟨q1, q2, q3, q4⟩ := HTF.out hrc
    have Q1 := Lib.hid q1; have Q2 := Lib.hid q2; have Q3 := Lib.hid q3; have Q4 := Lib.hid q4
    have HRC0 := Lib.hid (show repC tx rs = 0 by rw [← HRC.out]; exact hrc)
    have OY := Lib.hid (show Y.ok from by
      obtain ⟨hn, hl, ht⟩ := validTunB_iff.1 q2
      refine ⟨by have := hn.len; unfold maxLen; omega, fun l hl' => ?_⟩
      obtain ⟨k, hk, rfl⟩ := List.getElem_of_mem hl'
      obtain ⟨a1, a2, a3⟩ := (TonOk.iff' _).1 (ht k hk hk).1
      unfold noteOk at a1
      exact ⟨i64_smC (by omega) (by omega), i64_smC (by omega) (by omega), i64_smC (by omega) (by omega)⟩)
    subst hrc
    clear q1 q2 q3 q4 HTF HTB HRC
    go_wp2_with fail
    rw [← hyp]
    clear hyp
    go_wp2_with fail
    refine (implFastRepeats_any _ Y rs _ RY.out OY.out hyl IR.out).mono ?_
    rw [Q1.out, Q3.out]
    rintro e t3 ⟨vf, rfl, own, hb⟩
    obtain ⟨fa, fc, rfl⟩ := own.form
    have HB := Lib.hid (HB.out.trans (hb.mono HB.out.size))
    have BT := Lib.hid (BT.out.mono hb)
    have RT := Lib.hid (RT.out.mono hb)
    have BY := Lib.hid (BY.out.mono hb)
    have RY := Lib.hid (RY.out.mono hb)
    clear ka kb kl
    clear za zb zl
    clear own hb
    have ka := BT.out.at' 0 _ rfl
    have kb := BT.out.at' 1 _ rfl
    have kl := BT.out.lt
    go_wp2_with fail
    refine (implFastRepeats_any _ tx rs _ RT.out OT.out zt IR.out).mono ?_
    rw [HRC0.out]
    obtain ⟨SL, hSL⟩ : ∃ s, s = frV tx rs := ⟨_, rfl⟩
    rw [← hSL] at Q4 ⊢
    clear hSL
    rintro e t4 ⟨vg, rfl, own, hb⟩
    obtain ⟨ga, gc, rfl⟩ := own.form
    have HB := Lib.hid (HB.out.trans (hb.mono HB.out.size))
    have BT := Lib.hid (BT.out.mono hb)
    have RT := Lib.hid (RT.out.mono hb)
    have BY := Lib.hid (BY.out.mono hb)
    have RY := Lib.hid (RY.out.mono hb)
    clear ka kb kl
    clear own hb
    have ka := BT.out.at' 0 _ rfl
    have kb := BT.out.at' 1 _ rfl
    have kl := BT.out.lt
    have za := BY.out.at' 0 _ rfl
    have zb := BY.out.at' 1 _ rfl
    have zl := BY.out.lt
    by_cases hsl : SL.length = 0
    · have e1 : ¬ 0 < SL.length := by omega
      have hYt := Q4.out (List.length_eq_zero_iff.1 hsl)
      obtain ⟨l1, A1⟩ := RY.out
      obtain ⟨l2, A2⟩ := RT.out
      have HYT := Lib.hid hYt
      clear hYt hsl
      go_wp2_with fail
      refine (specSameTun_any _ l1 _ l2 Y tx _ A1 A2).mono ?_
      rw [show decide (Y = tx) = true from decide_eq_true HYT.out]
      rintro e t5 ⟨rfl, hb⟩
      have HB := Lib.hid (HB.out.trans (hb.mono HB.out.size))
      clear hb
      go_wp2
      go_ret
      exact ⟨rfl, HB.out⟩
    · have e1 : 0 < SL.length := by omega
      clear hsl
      go_wp2
      go_ret
      exact ⟨rfl, HB.out⟩
  obtain ⟨_, g1, g2, g3, g4, g5, g6⟩ := HFE.out hfc
  have G1 := Lib.hid g1; have G3 := Lib.hid g3; have G4 := Lib.hid g4; have G5 := Lib.hid g5; have G6 := Lib.hid g6
  have e2 : (FC == 0) = true := by simpa using hfc
  clear g1 g3 g4 g5 g6 hfc HFE
  have ua := BX.out.at' 0 _ rfl
  have ub := BX.out.at' 1 _ rfl
  have ul := BX.out.lt
  go_wp2_with fail
  refine (implExtraNotes_any _ x _ ns FS _ RX.out OX.out zx RN.out ON.out zn (i64_smC (by omega) (by omega))).mono ?_
  rw [G3.out, G4.out]
  rintro e w6 ⟨vg, rfl, own, hb⟩
  obtain ⟨a4, c4, rfl⟩ := own.form
  have RG := Lib.hid own.rd
  have HB := Lib.hid (HB.out.trans (hb.mono HB.out.size))
  have BX := Lib.hid (BX.out.mono hb)
  have RX := Lib.hid (RX.out.mono hb)
  have RN := Lib.hid (RN.out.mono hb)
  have RE := Lib.hid (RE.out.mono hb)
  clear ua ub ul
  clear own hb e1 e2
  have HI1 := Lib.hid (show ∀ u ∈ ns.map (Value.int .i64), u.oneCell' = true from fun u hu => by obtain ⟨z, _, rfl⟩ := List.mem_map.1 hu; simp [Value.oneCell'])
  have hba := belowA w6 (.cells #[] 2)
  have HN6 := Lib.hid (show Ints _ _ ns from RN.out.mono hba)
  go_wp2_with (at_builtin; refine append_all rfl _ _ 25 rfl w6.heap.size 2 (.int .i64 0) 1 8 Try.underlying25 info_int rfl (by decide) (.slice (some ⟨w6.heap.size, 0, none⟩) 0 0) 0 [] rfl (owns_empty w6 2 1 _ (Nat.le_refl _)) _ ns.length _ rfl HN6.out (by simp) HI1.out (by omega) (by decide) (by simp) ?_)
  intro a7 c7 w7 ho7 hg7 hb7
  have hb67 : Below w6.heap.size w6 w7 := hba.trans hb7
  try simp only [Nat.zero_add, List.nil_append] at ho7
  have HA7 := Lib.hid (show Ints w7 (.slice a7 ns.length c7) ns from Ints.of_owns ho7)
  have HB := Lib.hid (HB.out.trans (hb67.mono HB.out.size))
  have BX := Lib.hid (BX.out.mono hb67)
  have RX := Lib.hid (RX.out.mono hb67)
  have RE := Lib.hid (RE.out.mono hb67)
  have RG := Lib.hid (RG.out.mono hb67)
  try rw [Nat.zero_add]
  clear ho7 hg7 hb7 hb67 hba HN6 HI1
  go_wp2_with fail
  go_loopw [19, 20] (fun o iv wr => ∃ (k n : Nat) (ls : List Int) (a' : Option Addr) (c' : Nat), k ≤ FV.length ∧ iv = .int .i64 (k : Int) ∧ o = .slice a' n c' ∧ ls.length = n ∧ ls = withsL ns (FV.take k) ∧ Ints wr (.slice a' n c') ls ∧ Below w7.heap.size w7 wr) (fun _ iv _ => FV.length - (intOf iv).toNat)
  case atStart => exact ⟨0, ns.length, ns, _, _, Nat.zero_le _, by go_num, rfl, rfl, rfl, HA7.out, Below.refl _ _⟩
  case round =>
    obtain ⟨k, n, ls, a', c', hk, rfl, rfl, hln, hls, hli, hbr⟩ := hrel
    have HLN := Lib.hid hln; have HLS := Lib.hid hls; have HLI := Lib.hid hli; have HBR := Lib.hid hbr
    have hll : ls.length ≤ 400 := by rw [hls]; have := withs_len (FV.take k) ns; have := List.length_take_le k FV; omega
    have hzr := hbr.size
    clear hln hls hli HA7
    by_cases hlt : k < FV.length
    · obtain ⟨b1, o1, rfl, q1⟩ := Sl.cells ((show Ints w7 _ FV from RE.out).mono hbr) (by simp; omega)
      have z1 : wr.cell? ⟨b1, o1 + k, none⟩ = some (.int .i64 FV[k]) := q1 k _ (by simp [hlt])
      have HST := Lib.hid (withs_step hlt ns)
      clear q1 hbr
      go_wp2_with fail
      refine (b10With_any _ ls FV[k] _ HLI.out (by omega)).mono ?_
      rintro e w8 ⟨v8, rfl, own, hb⟩
      obtain ⟨a8, c8, rfl⟩ := own.form
      have RA := Lib.hid own.rd
      have HB8 := Lib.hid (HBR.out.trans (hb.mono hzr))
      clear own hb
      go_wp2
      go_roundw
      case rel => exact ⟨k + 1, _, withL ls FV[k] false, a8, c8, by omega, by go_num, rfl, rfl, by rw [HST.out, ← HLS.out], RA.out, HB8.out⟩
      case measure => simp [intOf] <;> omega
    · obtain rfl : k = FV.length := by omega
      have HLS := Lib.hid (show ls = withsL ns FV by rw [HLS.out, List.take_length])
      have HALL := Lib.hid (show ∀ y, y ∈ ns ∨ y ∈ FV → y ∈ ls from fun y hy => by rw [HLS.out]; exact (withs_mem FV ns y).2 hy)
      have HB := Lib.hid (HB.out.trans (HBR.out.mono HB.out.size))
      have BX := Lib.hid (BX.out.mono HBR.out)
      have RX := Lib.hid (RX.out.mono HBR.out)
      have RE := Lib.hid (RE.out.mono HBR.out)
      have RG := Lib.hid (RG.out.mono HBR.out)
      have hG5 : FV.length = 0 → BL = 0 := fun h => G5.out (List.length_eq_zero_iff.1 h)
      have HLI := Lib.hid (show RdInts wr (.slice a' ls.length c') ls by have := HLI.out; rw [← HLN.out] at this; exact this)
      rw [← HLN.out]
      clear hbr hk hlt HBR HLN hzr
      go_wp2_with fail
      refine (b10Nums_any _ _ FV _ RG.out RE.out).mono ?_
      rintro e w8 ⟨rfl, hq⟩
      have hb := hq.below wr.heap.size
      have HB := Lib.hid (HB.out.trans (hb.mono HB.out.size))
      have BX := Lib.hid (BX.out.mono hb)
      have RX := Lib.hid (RX.out.mono hb)
      have HLI := Lib.hid (HLI.out.mono hb)
      clear hb hq RG RE
      have HLO := Lib.hid (show ∀ y ∈ ls, I64 y from fun y hy => by
        rw [HLS.out] at hy
        rcases (withs_mem FV ns y).1 hy with h | h
        · exact ON.out y h
        · exact HFI.out y h)
      by_cases hz : FV.length = 0
      · have z1 : ((FV.length : Int) == 0) = true := beq_iff_eq.2 (by omega)
        have z2 : (BL != 0) = false := by rw [hG5 hz]; rfl
        clear hz hG5
        go_wp2_with fail
        refine (specValidSet_any _ ls _ HLI.out).mono ?_
        rintro e w9 ⟨rfl, hq⟩
        have hb := hq.below w8.heap.size
        clear hq
        have HB := Lib.hid (HB.out.trans (hb.mono HB.out.size))
        have BX := Lib.hid (BX.out.mono hb)
        have RX := Lib.hid (RX.out.mono hb)
        have HLI := Lib.hid (HLI.out.mono hb)
        clear hb
        cases hvs : validSet ls
        · clear hvs
          go_wp2_with fail
          refine (DrawThinTune_any _ _ x1 (HY.out.mono HB.out) o1).mono ?_
          rintro e t1 ⟨vt, tx, rs, rfl, own, sm, hrs, hb⟩
          obtain ⟨ta, tc, rfl⟩ := own.form
          have RT := Lib.hid own.rd
          have OT := Lib.hid (smT_okC sm)
          have zt : tx.tones.length ≤ 1048576 := by have := sm.len; omega
          have IR := Lib.hid (i64_smC (n := rs) (by omega) (by omega))
          have HB := Lib.hid (HB.out.trans (hb.mono HB.out.size))
          clear own sm hb
          obtain ⟨tp, htp⟩ : ∃ p, p = t1.heap.size := ⟨_, rfl⟩
          have BT := Lib.hid (Box.alloc t1 [.string tx.name, .slice ta tx.tones.length tc] 29 tp htp.symm)
          have hba := belowA t1 (.cells #[.string tx.name, .slice ta tx.tones.length tc] 29)
          have RT := Lib.hid (RT.out.mono hba)
          have HB := Lib.hid (HB.out.trans (hba.mono HB.out.size))
          clear hba
          have ka := BT.out.at' 0 _ rfl
          have kb := BT.out.at' 1 _ rfl
          have kl := BT.out.lt
          go_wp2_with fail
          rw [← htp]
          clear htp
          go_wp2_with fail
          refine (implThinTune_any _ tx rs _ RT.out OT.out zt IR.out).mono ?_
          have HTF := Lib.hid (fun h => thin_fn (x := tx) (r := rs) h)
          have HTB := Lib.hid (fun h => thin_bad (x := tx) (r := rs) h)
          obtain ⟨Y, hY⟩ : ∃ Y, Y = thinV tx rs := ⟨_, rfl⟩
          have hyl : Y.tones.length ≤ 1048576 := by rw [hY]; exact thinV_len tx rs
          rw [← hY] at HTF HTB ⊢
          obtain ⟨RC, hRC⟩ : ∃ C, C = repC tx rs := ⟨_, rfl⟩
          rw [← hRC] at HTB HTF ⊢
          have HRC := Lib.hid hRC
          clear hY hRC
          rintro e t2 ⟨vy, rfl, own, hb⟩
          obtain ⟨ya, yc, rfl⟩ := own.form
          have RY := Lib.hid own.rd
          have HB := Lib.hid (HB.out.trans (hb.mono HB.out.size))
          have BT := Lib.hid (BT.out.mono hb)
          have RT := Lib.hid (RT.out.mono hb)
          clear ka kb kl
          clear own hb
          obtain ⟨yp, hyp⟩ : ∃ p, p = t2.heap.size := ⟨_, rfl⟩
          have BY := Lib.hid (Box.alloc t2 [.string Y.name, .slice ya Y.tones.length yc] 29 yp hyp.symm)
          have hba := belowA t2 (.cells #[.string Y.name, .slice ya Y.tones.length yc] 29)
          have RY := Lib.hid (RY.out.mono hba)
          have HB := Lib.hid (HB.out.trans (hba.mono HB.out.size))
          have BT := Lib.hid (BT.out.mono hba)
          have RT := Lib.hid (RT.out.mono hba)
          clear hba
          have ka := BT.out.at' 0 _ rfl
          have kb := BT.out.at' 1 _ rfl
          have kl := BT.out.lt
          have za := BY.out.at' 0 _ rfl
          have zb := BY.out.at' 1 _ rfl
          have zl := BY.out.lt
          by_cases hrc : RC = 0
          rotate_left
          · have e1 : (RC != 0) = true := by simpa using hrc
            have e3 : ((Y.tones.length : Int) == 0) = true := by rw [HTB.out hrc]; rfl
            clear hrc HTF HTB
            go_wp2_with fail
            rw [← hyp]
            clear hyp
            go_wp2
            go_ret
            exact ⟨rfl, HB.out⟩
          obtain ⟨q1, q2, q3, q4⟩ := HTF.out hrc
          have Q1 := Lib.hid q1; have Q2 := Lib.hid q2; have Q3 := Lib.hid q3; have Q4 := Lib.hid q4
          have HRC0 := Lib.hid (show repC tx rs = 0 by rw [← HRC.out]; exact hrc)
          have OY := Lib.hid (show Y.ok from by
            obtain ⟨hn, hl, ht⟩ := validTunB_iff.1 q2
            refine ⟨by have := hn.len; unfold maxLen; omega, fun l hl' => ?_⟩
            obtain ⟨k, hk, rfl⟩ := List.getElem_of_mem hl'
            obtain ⟨a1, a2, a3⟩ := (TonOk.iff' _).1 (ht k hk hk).1
            unfold noteOk at a1
            exact ⟨i64_smC (by omega) (by omega), i64_smC (by omega) (by omega), i64_smC (by omega) (by omega)⟩)
          subst hrc
          clear q1 q2 q3 q4 HTF HTB HRC
          go_wp2_with fail
          rw [← hyp]
          clear hyp
          go_wp2_with fail
          refine (implFastRepeats_any _ Y rs _ RY.out OY.out hyl IR.out).mono ?_
          rw [Q1.out, Q3.out]
          rintro e t3 ⟨vf, rfl, own, hb⟩
          obtain ⟨fa, fc, rfl⟩ := own.form
          have HB := Lib.hid (HB.out.trans (hb.mono HB.out.size))
          have BT := Lib.hid (BT.out.mono hb)
          have RT := Lib.hid (RT.out.mono hb)
          have BY := Lib.hid (BY.out.mono hb)
          have RY := Lib.hid (RY.out.mono hb)
          clear ka kb kl
          clear za zb zl
          clear own hb
          have ka := BT.out.at' 0 _ rfl
          have kb := BT.out.at' 1 _ rfl
          have kl := BT.out.lt
          go_wp2_with fail
          refine (implFastRepeats_any _ tx rs _ RT.out OT.out zt IR.out).mono ?_
          rw [HRC0.out]
          obtain ⟨SL, hSL⟩ : ∃ s, s = frV tx rs := ⟨_, rfl⟩
          rw [← hSL] at Q4 ⊢
          clear hSL
          rintro e t4 ⟨vg, rfl, own, hb⟩
          obtain ⟨ga, gc, rfl⟩ := own.form
          have HB := Lib.hid (HB.out.trans (hb.mono HB.out.size))
          have BT := Lib.hid (BT.out.mono hb)
          have RT := Lib.hid (RT.out.mono hb)
          have BY := Lib.hid (BY.out.mono hb)
          have RY := Lib.hid (RY.out.mono hb)
          clear ka kb kl
          clear own hb
          have ka := BT.out.at' 0 _ rfl
          have kb := BT.out.at' 1 _ rfl
          have kl := BT.out.lt
          have za := BY.out.at' 0 _ rfl
          have zb := BY.out.at' 1 _ rfl
          have zl := BY.out.lt
          by_cases hsl : SL.length = 0
          · have e1 : ¬ 0 < SL.length := by omega
            have hYt := Q4.out (List.length_eq_zero_iff.1 hsl)
            obtain ⟨l1, A1⟩ := RY.out
            obtain ⟨l2, A2⟩ := RT.out
            have HYT := Lib.hid hYt
            clear hYt hsl
            go_wp2_with fail
            refine (specSameTun_any _ l1 _ l2 Y tx _ A1 A2).mono ?_
            rw [show decide (Y = tx) = true from decide_eq_true HYT.out]
            rintro e t5 ⟨rfl, hb⟩
            have HB := Lib.hid (HB.out.trans (hb.mono HB.out.size))
            clear hb
            go_wp2
            go_ret
            exact ⟨rfl, HB.out⟩
          · have e1 : 0 < SL.length := by omega
            clear hsl
            go_wp2
            go_ret
            exact ⟨rfl, HB.out⟩
        · obtain ⟨m1, m2⟩ := G6.out ls hvs HALL.out
          have M1 := Lib.hid m1; have M2 := Lib.hid m2
          clear m1 m2 hvs
          have ua := BX.out.at' 0 _ rfl
          have ub := BX.out.at' 1 _ rfl
          have ul := BX.out.lt
          go_wp2_with fail
          refine (implMissingTones_any _ x _ ls FS _ RX.out OX.out zx HLI.out HLO.out (by omega) (i64_smC (by omega) (by omega))).mono ?_
          rw [M1.out, M2.out]
          rintro e w10 ⟨rfl, hb⟩
          have HB := Lib.hid (HB.out.trans (hb.mono HB.out.size))
          have BX := Lib.hid (BX.out.mono hb)
          have RX := Lib.hid (RX.out.mono hb)
          clear ua ub ul
          clear hb
          go_wp2_with fail
          refine (DrawThinTune_any _ _ x1 (HY.out.mono HB.out) o1).mono ?_
          rintro e t1 ⟨vt, tx, rs, rfl, own, sm, hrs, hb⟩
          obtain ⟨ta, tc, rfl⟩ := own.form
          have RT := Lib.hid own.rd
          have OT := Lib.hid (smT_okC sm)
          have zt : tx.tones.length ≤ 1048576 := by have := sm.len; omega
          have IR := Lib.hid (i64_smC (n := rs) (by omega) (by omega))
          have HB := Lib.hid (HB.out.trans (hb.mono HB.out.size))
          clear own sm hb
          obtain ⟨tp, htp⟩ : ∃ p, p = t1.heap.size := ⟨_, rfl⟩
          have BT := Lib.hid (Box.alloc t1 [.string tx.name, .slice ta tx.tones.length tc] 29 tp htp.symm)
          have hba := belowA t1 (.cells #[.string tx.name, .slice ta tx.tones.length tc] 29)
          have RT := Lib.hid (RT.out.mono hba)
          have HB := Lib.hid (HB.out.trans (hba.mono HB.out.size))
          clear hba
          have ka := BT.out.at' 0 _ rfl
          have kb := BT.out.at' 1 _ rfl
          have kl := BT.out.lt
          go_wp2_with fail
          rw [← htp]
          clear htp
          go_wp2_with fail
          refine (implThinTune_any _ tx rs _ RT.out OT.out zt IR.out).mono ?_
          have HTF := Lib.hid (fun h => thin_fn (x := tx) (r := rs) h)
          have HTB := Lib.hid (fun h => thin_bad (x := tx) (r := rs) h)
          obtain ⟨Y, hY⟩ : ∃ Y, Y = thinV tx rs := ⟨_, rfl⟩
          have hyl : Y.tones.length ≤ 1048576 := by rw [hY]; exact thinV_len tx rs
          rw [← hY] at HTF HTB ⊢
          obtain ⟨RC, hRC⟩ : ∃ C, C = repC tx rs := ⟨_, rfl⟩
          rw [← hRC] at HTB HTF ⊢
          have HRC := Lib.hid hRC
          clear hY hRC
          rintro e t2 ⟨vy, rfl, own, hb⟩
          obtain ⟨ya, yc, rfl⟩ := own.form
          have RY := Lib.hid own.rd
          have HB := Lib.hid (HB.out.trans (hb.mono HB.out.size))
          have BT := Lib.hid (BT.out.mono hb)
          have RT := Lib.hid (RT.out.mono hb)
          clear ka kb kl
          clear own hb
          obtain ⟨yp, hyp⟩ : ∃ p, p = t2.heap.size := ⟨_, rfl⟩
          have BY := Lib.hid (Box.alloc t2 [.string Y.name, .slice ya Y.tones.length yc] 29 yp hyp.symm)
          have hba := belowA t2 (.cells #[.string Y.name, .slice ya Y.tones.length yc] 29)
          have RY := Lib.hid (RY.out.mono hba)
          have HB := Lib.hid (HB.out.trans (hba.mono HB.out.size))
          have BT := Lib.hid (BT.out.mono hba)
          have RT := Lib.hid (RT.out.mono hba)
          clear hba
          have ka := BT.out.at' 0 _ rfl
          have kb := BT.out.at' 1 _ rfl
          have kl := BT.out.lt
          have za := BY.out.at' 0 _ rfl
          have zb := BY.out.at' 1 _ rfl
          have zl := BY.out.lt
          by_cases hrc : RC = 0
          rotate_left
          · have e1 : (RC != 0) = true := by simpa using hrc
            have e3 : ((Y.tones.length : Int) == 0) = true := by rw [HTB.out hrc]; rfl
            clear hrc HTF HTB
            go_wp2_with fail
            rw [← hyp]
            clear hyp
            go_wp2
            go_ret
            exact ⟨rfl, HB.out⟩
          obtain ⟨q1, q2, q3, q4⟩ := HTF.out hrc
          have Q1 := Lib.hid q1; have Q2 := Lib.hid q2; have Q3 := Lib.hid q3; have Q4 := Lib.hid q4
          have HRC0 := Lib.hid (show repC tx rs = 0 by rw [← HRC.out]; exact hrc)
          have OY := Lib.hid (show Y.ok from by
            obtain ⟨hn, hl, ht⟩ := validTunB_iff.1 q2
            refine ⟨by have := hn.len; unfold maxLen; omega, fun l hl' => ?_⟩
            obtain ⟨k, hk, rfl⟩ := List.getElem_of_mem hl'
            obtain ⟨a1, a2, a3⟩ := (TonOk.iff' _).1 (ht k hk hk).1
            unfold noteOk at a1
            exact ⟨i64_smC (by omega) (by omega), i64_smC (by omega) (by omega), i64_smC (by omega) (by omega)⟩)
          subst hrc
          clear q1 q2 q3 q4 HTF HTB HRC
          go_wp2_with fail
          rw [← hyp]
          clear hyp
          go_wp2_with fail
          refine (implFastRepeats_any _ Y rs _ RY.out OY.out hyl IR.out).mono ?_
          rw [Q1.out, Q3.out]
          rintro e t3 ⟨vf, rfl, own, hb⟩
          obtain ⟨fa, fc, rfl⟩ := own.form
          have HB := Lib.hid (HB.out.trans (hb.mono HB.out.size))
          have BT := Lib.hid (BT.out.mono hb)
          have RT := Lib.hid (RT.out.mono hb)
          have BY := Lib.hid (BY.out.mono hb)
          have RY := Lib.hid (RY.out.mono hb)
          clear ka kb kl
          clear za zb zl
          clear own hb
          have ka := BT.out.at' 0 _ rfl
          have kb := BT.out.at' 1 _ rfl
          have kl := BT.out.lt
          go_wp2_with fail
          refine (implFastRepeats_any _ tx rs _ RT.out OT.out zt IR.out).mono ?_
          rw [HRC0.out]
          obtain ⟨SL, hSL⟩ : ∃ s, s = frV tx rs := ⟨_, rfl⟩
          rw [← hSL] at Q4 ⊢
          clear hSL
          rintro e t4 ⟨vg, rfl, own, hb⟩
          obtain ⟨ga, gc, rfl⟩ := own.form
          have HB := Lib.hid (HB.out.trans (hb.mono HB.out.size))
          have BT := Lib.hid (BT.out.mono hb)
          have RT := Lib.hid (RT.out.mono hb)
          have BY := Lib.hid (BY.out.mono hb)
          have RY := Lib.hid (RY.out.mono hb)
          clear ka kb kl
          clear own hb
          have ka := BT.out.at' 0 _ rfl
          have kb := BT.out.at' 1 _ rfl
          have kl := BT.out.lt
          have za := BY.out.at' 0 _ rfl
          have zb := BY.out.at' 1 _ rfl
          have zl := BY.out.lt
          by_cases hsl : SL.length = 0
          · have e1 : ¬ 0 < SL.length := by omega
            have hYt := Q4.out (List.length_eq_zero_iff.1 hsl)
            obtain ⟨l1, A1⟩ := RY.out
            obtain ⟨l2, A2⟩ := RT.out
            have HYT := Lib.hid hYt
            clear hYt hsl
            go_wp2_with fail
            refine (specSameTun_any _ l1 _ l2 Y tx _ A1 A2).mono ?_
            rw [show decide (Y = tx) = true from decide_eq_true HYT.out]
            rintro e t5 ⟨rfl, hb⟩
            have HB := Lib.hid (HB.out.trans (hb.mono HB.out.size))
            clear hb
            go_wp2
            go_ret
            exact ⟨rfl, HB.out⟩
          · have e1 : 0 < SL.length := by omega
            clear hsl
            go_wp2
            go_ret
            exact ⟨rfl, HB.out⟩
      · have z1 : ((FV.length : Int) == 0) = false := beq_eq_false_iff_ne.2 (by omega)
        clear hz hG5
        go_wp2_with fail
        refine (specValidSet_any _ ls _ HLI.out).mono ?_
        rintro e w9 ⟨rfl, hq⟩
        have hb := hq.below w8.heap.size
        clear hq
        have HB := Lib.hid (HB.out.trans (hb.mono HB.out.size))
        have BX := Lib.hid (BX.out.mono hb)
        have RX := Lib.hid (RX.out.mono hb)
        have HLI := Lib.hid (HLI.out.mono hb)
        clear hb
        cases hvs : validSet ls
        · clear hvs
          go_wp2_with fail
          refine (DrawThinTune_any _ _ x1 (HY.out.mono HB.out) o1).mono ?_
          rintro e t1 ⟨vt, tx, rs, rfl, own, sm, hrs, hb⟩
          obtain ⟨ta, tc, rfl⟩ := own.form
          have RT := Lib.hid own.rd
          have OT := Lib.hid (smT_okC sm)
          have zt : tx.tones.length ≤ 1048576 := by have := sm.len; omega
          have IR := Lib.hid (i64_smC (n := rs) (by omega) (by omega))
          have HB := Lib.hid (HB.out.trans (hb.mono HB.out.size))
          clear own sm hb
          obtain ⟨tp, htp⟩ : ∃ p, p = t1.heap.size := ⟨_, rfl⟩
          have BT := Lib.hid (Box.alloc t1 [.string tx.name, .slice ta tx.tones.length tc] 29 tp htp.symm)
          have hba := belowA t1 (.cells #[.string tx.name, .slice ta tx.tones.length tc] 29)
          have RT := Lib.hid (RT.out.mono hba)
          have HB := Lib.hid (HB.out.trans (hba.mono HB.out.size))
          clear hba
          have ka := BT.out.at' 0 _ rfl
          have kb := BT.out.at' 1 _ rfl
          have kl := BT.out.lt
          go_wp2_with fail
          rw [← htp]
          clear htp
          go_wp2_with fail
          refine (implThinTune_any _ tx rs _ RT.out OT.out zt IR.out).mono ?_
          have HTF := Lib.hid (fun h => thin_fn (x := tx) (r := rs) h)
          have HTB := Lib.hid (fun h => thin_bad (x := tx) (r := rs) h)
          obtain ⟨Y, hY⟩ : ∃ Y, Y = thinV tx rs := ⟨_, rfl⟩
          have hyl : Y.tones.length ≤ 1048576 := by rw [hY]; exact thinV_len tx rs
          rw [← hY] at HTF HTB ⊢
          obtain ⟨RC, hRC⟩ : ∃ C, C = repC tx rs := ⟨_, rfl⟩
          rw [← hRC] at HTB HTF ⊢
          have HRC := Lib.hid hRC
          clear hY hRC
          rintro e t2 ⟨vy, rfl, own, hb⟩
          obtain ⟨ya, yc, rfl⟩ := own.form
          have RY := Lib.hid own.rd
          have HB := Lib.hid (HB.out.trans (hb.mono HB.out.size))
          have BT := Lib.hid (BT.out.mono hb)
          have RT := Lib.hid (RT.out.mono hb)
          clear ka kb kl
          clear own hb
          obtain ⟨yp, hyp⟩ : ∃ p, p = t2.heap.size := ⟨_, rfl⟩
          have BY := Lib.hid (Box.alloc t2 [.string Y.name, .slice ya Y.tones.length yc] 29 yp hyp.symm)
          have hba := belowA t2 (.cells #[.string Y.name, .slice ya Y.tones.length yc] 29)
          have RY := Lib.hid (RY.out.mono hba)
          have HB := Lib.hid (HB.out.trans (hba.mono HB.out.size))
          have BT := Lib.hid (BT.out.mono hba)
          have RT := Lib.hid (RT.out.mono hba)
          clear hba
          have ka := BT.out.at' 0 _ rfl
          have kb := BT.out.at' 1 _ rfl
          have kl := BT.out.lt
          have za := BY.out.at' 0 _ rfl
          have zb := BY.out.at' 1 _ rfl
          have zl := BY.out.lt
          by_cases hrc : RC = 0
          rotate_left
          · have e1 : (RC != 0) = true := by simpa using hrc
            have e3 : ((Y.tones.length : Int) == 0) = true := by rw [HTB.out hrc]; rfl
            clear hrc HTF HTB
            go_wp2_with fail
            rw [← hyp]
            clear hyp
            go_wp2
            go_ret
            exact ⟨rfl, HB.out⟩
          obtain ⟨q1, q2, q3, q4⟩ := HTF.out hrc
          have Q1 := Lib.hid q1; have Q2 := Lib.hid q2; have Q3 := Lib.hid q3; have Q4 := Lib.hid q4
          have HRC0 := Lib.hid (show repC tx rs = 0 by rw [← HRC.out]; exact hrc)
          have OY := Lib.hid (show Y.ok from by
            obtain ⟨hn, hl, ht⟩ := validTunB_iff.1 q2
            refine ⟨by have := hn.len; unfold maxLen; omega, fun l hl' => ?_⟩
            obtain ⟨k, hk, rfl⟩ := List.getElem_of_mem hl'
            obtain ⟨a1, a2, a3⟩ := (TonOk.iff' _).1 (ht k hk hk).1
            unfold noteOk at a1
            exact ⟨i64_smC (by omega) (by omega), i64_smC (by omega) (by omega), i64_smC (by omega) (by omega)⟩)
          subst hrc
          clear q1 q2 q3 q4 HTF HTB HRC
          go_wp2_with fail
          rw [← hyp]
          clear hyp
          go_wp2_with fail
          refine (implFastRepeats_any _ Y rs _ RY.out OY.out hyl IR.out).mono ?_
          rw [Q1.out, Q3.out]
          rintro e t3 ⟨vf, rfl, own, hb⟩
          obtain ⟨fa, fc, rfl⟩ := own.form
          have HB := Lib.hid (HB.out.trans (hb.mono HB.out.size))
          have BT := Lib.hid (BT.out.mono hb)
          have RT := Lib.hid (RT.out.mono hb)
          have BY := Lib.hid (BY.out.mono hb)
          have RY := Lib.hid (RY.out.mono hb)
          clear ka kb kl
          clear za zb zl
          clear own hb
          have ka := BT.out.at' 0 _ rfl
          have kb := BT.out.at' 1 _ rfl
          have kl := BT.out.lt
          go_wp2_with fail
          refine (implFastRepeats_any _ tx rs _ RT.out OT.out zt IR.out).mono ?_
          rw [HRC0.out]
          obtain ⟨SL, hSL⟩ : ∃ s, s = frV tx rs := ⟨_, rfl⟩
          rw [← hSL] at Q4 ⊢
          clear hSL
          rintro e t4 ⟨vg, rfl, own, hb⟩
          obtain ⟨ga, gc, rfl⟩ := own.form
          have HB := Lib.hid (HB.out.trans (hb.mono HB.out.size))
          have BT := Lib.hid (BT.out.mono hb)
          have RT := Lib.hid (RT.out.mono hb)
          have BY := Lib.hid (BY.out.mono hb)
          have RY := Lib.hid (RY.out.mono hb)
          clear ka kb kl
          clear own hb
          have ka := BT.out.at' 0 _ rfl
          have kb := BT.out.at' 1 _ rfl
          have kl := BT.out.lt
          have za := BY.out.at' 0 _ rfl
          have zb := BY.out.at' 1 _ rfl
          have zl := BY.out.lt
          by_cases hsl : SL.length = 0
          · have e1 : ¬ 0 < SL.length := by omega
            have hYt := Q4.out (List.length_eq_zero_iff.1 hsl)
            obtain ⟨l1, A1⟩ := RY.out
            obtain ⟨l2, A2⟩ := RT.out
            have HYT := Lib.hid hYt
            clear hYt hsl
            go_wp2_with fail
            refine (specSameTun_any _ l1 _ l2 Y tx _ A1 A2).mono ?_
            rw [show decide (Y = tx) = true from decide_eq_true HYT.out]
            rintro e t5 ⟨rfl, hb⟩
            have HB := Lib.hid (HB.out.trans (hb.mono HB.out.size))
            clear hb
            go_wp2
            go_ret
            exact ⟨rfl, HB.out⟩
          · have e1 : 0 < SL.length := by omega
            clear hsl
            go_wp2
            go_ret
            exact ⟨rfl, HB.out⟩
        · obtain ⟨m1, m2⟩ := G6.out ls hvs HALL.out
          have M1 := Lib.hid m1; have M2 := Lib.hid m2
          clear m1 m2 hvs
          have ua := BX.out.at' 0 _ rfl
          have ub := BX.out.at' 1 _ rfl
          have ul := BX.out.lt
          go_wp2_with fail
          refine (implMissingTones_any _ x _ ls FS _ RX.out OX.out zx HLI.out HLO.out (by omega) (i64_smC (by omega) (by omega))).mono ?_
          rw [M1.out, M2.out]
          rintro e w10 ⟨rfl, hb⟩
          have HB := Lib.hid (HB.out.trans (hb.mono HB.out.size))
          have BX := Lib.hid (BX.out.mono hb)
          have RX := Lib.hid (RX.out.mono hb)
          clear ua ub ul
          clear hb
          go_wp2_with fail
          refine (DrawThinTune_any _ _ x1 (HY.out.mono HB.out) o1).mono ?_
          rintro e t1 ⟨vt, tx, rs, rfl, own, sm, hrs, hb⟩
          obtain ⟨ta, tc, rfl⟩ := own.form
          have RT := Lib.hid own.rd
          have OT := Lib.hid (smT_okC sm)
          have zt : tx.tones.length ≤ 1048576 := by have := sm.len; omega
          have IR := Lib.hid (i64_smC (n := rs) (by omega) (by omega))
          have HB := Lib.hid (HB.out.trans (hb.mono HB.out.size))
          clear own sm hb
          obtain ⟨tp, htp⟩ : ∃ p, p = t1.heap.size := ⟨_, rfl⟩
          have BT := Lib.hid (Box.alloc t1 [.string tx.name, .slice ta tx.tones.length tc] 29 tp htp.symm)
          have hba := belowA t1 (.cells #[.string tx.name, .slice ta tx.tones.length tc] 29)
          have RT := Lib.hid (RT.out.mono hba)
          have HB := Lib.hid (HB.out.trans (hba.mono HB.out.size))
          clear hba
          have ka := BT.out.at' 0 _ rfl
          have kb := BT.out.at' 1 _ rfl
          have kl := BT.out.lt
          go_wp2_with fail
          rw [← htp]
          clear htp
          go_wp2_with fail
          refine (implThinTune_any _ tx rs _ RT.out OT.out zt IR.out).mono ?_
          have HTF := Lib.hid (fun h => thin_fn (x := tx) (r := rs) h)
          have HTB := Lib.hid (fun h => thin_bad (x := tx) (r := rs) h)
          obtain ⟨Y, hY⟩ : ∃ Y, Y = thinV tx rs := ⟨_, rfl⟩
          have hyl : Y.tones.length ≤ 1048576 := by rw [hY]; exact thinV_len tx rs
          rw [← hY] at HTF HTB ⊢
          obtain ⟨RC, hRC⟩ : ∃ C, C = repC tx rs := ⟨_, rfl⟩
          rw [← hRC] at HTB HTF ⊢
          have HRC := Lib.hid hRC
          clear hY hRC
          rintro e t2 ⟨vy, rfl, own, hb⟩
          obtain ⟨ya, yc, rfl⟩ := own.form
          have RY := Lib.hid own.rd
          have HB := Lib.hid (HB.out.trans (hb.mono HB.out.size))
          have BT := Lib.hid (BT.out.mono hb)
          have RT := Lib.hid (RT.out.mono hb)
          clear ka kb kl
          clear own hb
          obtain ⟨yp, hyp⟩ : ∃ p, p = t2.heap.size := ⟨_, rfl⟩
          have BY := Lib.hid (Box.alloc t2 [.string Y.name, .slice ya Y.tones.length yc] 29 yp hyp.symm)
          have hba := belowA t2 (.cells #[.string Y.name, .slice ya Y.tones.length yc] 29)
          have RY := Lib.hid (RY.out.mono hba)
          have HB := Lib.hid (HB.out.trans (hba.mono HB.out.size))
          have BT := Lib.hid (BT.out.mono hba)
          have RT := Lib.hid (RT.out.mono hba)
          clear hba
          have ka := BT.out.at' 0 _ rfl
          have kb := BT.out.at' 1 _ rfl
          have kl := BT.out.lt
          have za := BY.out.at' 0 _ rfl
          have zb := BY.out.at' 1 _ rfl
          have zl := BY.out.lt
          by_cases hrc : RC = 0
          rotate_left
          · have e1 : (RC != 0) = true := by simpa using hrc
            have e3 : ((Y.tones.length : Int) == 0) = true := by rw [HTB.out hrc]; rfl
            clear hrc HTF HTB
            go_wp2_with fail
            rw [← hyp]
            clear hyp
            go_wp2
            go_ret
            exact ⟨rfl, HB.out⟩
          obtain ⟨q1, q2, q3, q4⟩ := HTF.out hrc
          have Q1 := Lib.hid q1; have Q2 := Lib.hid q2; have Q3 := Lib.hid q3; have Q4 := Lib.hid q4
          have HRC0 := Lib.hid (show repC tx rs = 0 by rw [← HRC.out]; exact hrc)
          have OY := Lib.hid (show Y.ok from by
            obtain ⟨hn, hl, ht⟩ := validTunB_iff.1 q2
            refine ⟨by have := hn.len; unfold maxLen; omega, fun l hl' => ?_⟩
            obtain ⟨k, hk, rfl⟩ := List.getElem_of_mem hl'
            obtain ⟨a1, a2, a3⟩ := (TonOk.iff' _).1 (ht k hk hk).1
            unfold noteOk at a1
            exact ⟨i64_smC (by omega) (by omega), i64_smC (by omega) (by omega), i64_smC (by omega) (by omega)⟩)
          subst hrc
          clear q1 q2 q3 q4 HTF HTB HRC
          go_wp2_with fail
          rw [← hyp]
          clear hyp
          go_wp2_with fail
          refine (implFastRepeats_any _ Y rs _ RY.out OY.out hyl IR.out).mono ?_
          rw [Q1.out, Q3.out]
          rintro e t3 ⟨vf, rfl, own, hb⟩
          obtain ⟨fa, fc, rfl⟩ := own.form
          have HB := Lib.hid (HB.out.trans (hb.mono HB.out.size))
          have BT := Lib.hid (BT.out.mono hb)
          have RT := Lib.hid (RT.out.mono hb)
          have BY := Lib.hid (BY.out.mono hb)
          have RY := Lib.hid (RY.out.mono hb)
          clear ka kb kl
          clear za zb zl
          clear own hb
          have ka := BT.out.at' 0 _ rfl
          have kb := BT.out.at' 1 _ rfl
          have kl := BT.out.lt
          go_wp2_with fail
          refine (implFastRepeats_any _ tx rs _ RT.out OT.out zt IR.out).mono ?_
          rw [HRC0.out]
          obtain ⟨SL, hSL⟩ : ∃ s, s = frV tx rs := ⟨_, rfl⟩
          rw [← hSL] at Q4 ⊢
          clear hSL
          rintro e t4 ⟨vg, rfl, own, hb⟩
          obtain ⟨ga, gc, rfl⟩ := own.form
          have HB := Lib.hid (HB.out.trans (hb.mono HB.out.size))
          have BT := Lib.hid (BT.out.mono hb)
          have RT := Lib.hid (RT.out.mono hb)
          have BY := Lib.hid (BY.out.mono hb)
          have RY := Lib.hid (RY.out.mono hb)
          clear ka kb kl
          clear own hb
          have ka := BT.out.at' 0 _ rfl
          have kb := BT.out.at' 1 _ rfl
          have kl := BT.out.lt
          have za := BY.out.at' 0 _ rfl
          have zb := BY.out.at' 1 _ rfl
          have zl := BY.out.lt
          by_cases hsl : SL.length = 0
          · have e1 : ¬ 0 < SL.length := by omega
            have hYt := Q4.out (List.length_eq_zero_iff.1 hsl)
            obtain ⟨l1, A1⟩ := RY.out
            obtain ⟨l2, A2⟩ := RT.out
            have HYT := Lib.hid hYt
            clear hYt hsl
            go_wp2_with fail
            refine (specSameTun_any _ l1 _ l2 Y tx _ A1 A2).mono ?_
            rw [show decide (Y = tx) = true from decide_eq_true HYT.out]
            rintro e t5 ⟨rfl, hb⟩
            have HB := Lib.hid (HB.out.trans (hb.mono HB.out.size))
            clear hb
            go_wp2
            go_ret
            exact ⟨rfl, HB.out⟩
          · have e1 : 0 < SL.length := by omega
            clear hsl
            go_wp2
            go_ret
            exact ⟨rfl, HB.out⟩

end Go.Proofs.Ytemmnjokojgjaaa
