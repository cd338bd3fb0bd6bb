/- Part 9 (a part of the proof of UnstreamSteps; no condition). -/
import Derived.Test.YtegjkhgaoabfcaaGreatWh
set_option linter.unusedSimpArgs false
set_option linter.unusedVariables false
set_option maxRecDepth 10000
namespace Go.Proofs.YtegjkhgaoabfcaaGreat
open Go.AE
theorem take1 {s : List Nat} {i x : Nat} (h : s[i]? = some x) : (s.drop i).take (i + 1 - i) = [x] := by
  have hi : i < s.length := by rcases Nat.lt_or_ge i s.length with q | q; exact q; rw [List.getElem?_eq_none q] at h; cases h
  rw [Nat.add_sub_cancel_left, List.drop_eq_getElem_cons hi]
  rw [List.getElem?_eq_getElem hi] at h
  simp [Option.some.inj h]
section
variable {ov : OvT} (H : OvH ov)
include H
theorem rUnbw_cr {h : Heap} {c o : Nat} {s : List Nat} (h256 : ∀ x ∈ s, x < 256) (hn : s.length ≤ 1000000) (ho : o < s.length) :
    CR Tryz.prog ov 75 [.string (txt s), nv o] ⟨h, c⟩ (fun w st => w = .string (txt (unbw s o)) ∧ Keep [] h c st) := by
  have hsz := txt_size s
  have hol : (ordU s 256).length = s.length := by rw [ordU_len, fromC_all h256]
  refine e_2 Tryz.func75 rfl (H _ (by decide)) Tryz.ntmps75 (by decide) ?_
  intro env U
  refine sg 1 J (qA U J (nK (sg 3 J (qM U J (qC U J (CR.mono (rLinks_cr H h256 hn) ?_))))))
  rintro v ⟨hh1, cc1⟩ ⟨a, cp, rfl, hS, hO, hK⟩
  have hcc1 := hK.1
  dsimp only at hcc1 hS hO
  refine qA U J (nK (sg 1 J (qA U J (nK (sg 2 J (qM U J (qA U J (nK (rS (sg 3 J (qM U J (qK U J Tryz.underlying9 ?_))))))))))))
  rw [hsz]
  refine qM U J (nK (rB ?_))
  refine rL (fun m env' s' => ∃ j, m = s.length - j ∧ j ≤ s.length ∧ Hd 28 [(0, .string (txt s)), (5, .slice a s.length cp), (7, nv (atI (ordU s 256) o j)), (6, .string (txt (outI (ordU s 256) s o j))), (12, nv s.length), (13, nv j)] env' ∧ s'.heap = hh1 ∧ cc1 ≤ s'.ctr) s.length ?_ ?_
  · exact ⟨0, rfl, Nat.zero_le _, Ho U ⟨rfl, rfl, rfl, rfl, rfl, rfl, trivial⟩, rfl, by dsimp only; omega⟩
  rintro m _ ⟨h2, c2⟩ ⟨j, rfl, hj, ⟨env, U, rfl⟩, he, hc2⟩
  dsimp only at he hc2
  subst he
  refine sg 1 J (qB U J J J (nK (rS ?_)))
  refine rC U rfl (fun hjn => ?_) (fun hjn => ?_)
  · try simp only [dz, dy] at hjn
    obtain ⟨mb, rfl, rfl, hmb⟩ := hS.pos (by omega)
    have hat := atI_lt h256 ho j
    have hat1 := atI_lt h256 ho (j + 1)
    obtain ⟨y, hy⟩ : ∃ y, s[atI (ordU s 256) o (j + 1)]? = some y := ⟨_, List.getElem?_eq_getElem hat1⟩
    have hoj : (outI (ordU s 256) s o j).length = j := by simp [outI]
    have hos : outI (ordU s 256) s o (j + 1) = outI (ordU s 256) s o j ++ [y] := by rw [outI_succ, List.getD_eq_getElem?_getD, hy]; rfl
    refine rK (kN (rS (rB (sg 5 J (qM U J (qM U J (qI U rfl rfl e171 ⟨by omega, by omega⟩ ?_)))))))
    refine qL U rfl aA (by exact (p3.1 _ _).trans (by rw [show 0 + ((atI (ordU s 256) o j : Nat) : Int).toNat * 1 = atI (ordU s 256) o j by omega]; exact nv_get (l := ordU s 256) (i := atI (ordU s 256) o j) oA)) (v := nv (atI (ordU s 256) o (j + 1))) ?_
    refine qA U J (nK (rg 8 J (qM U J (qM U J (qM U J (qM U J (qP U J J wA ?_)))))))
    refine qT (s := s) (atI (ordU s 256) o (j + 1)) (atI (ordU s 256) o (j + 1) + 1) U rfl Tryz.underlying9 rfl rfl ⟨by omega, by omega⟩ ?_
    simp only [take1 hy]
    refine qB U rfl rfl (addS _ _ (by rw [hoj]; simp; omega)) ?_
    refine qA U J (rN (kO (kN (rg 2 J (qP U J J wA ?_)))))
    refine qM U J (nK ?_)
    exact ⟨s.length - (j + 1), by omega, j + 1, rfl, by omega, Ho U ⟨rfl, rfl, rfl, by rw [hos]; rfl, rfl, rfl, trivial⟩, rfl, by dsimp only; omega⟩
  · try simp only [dz, dy] at hjn
    refine r_exit (kE (kE (kB (kN (sg 2 J (qM U J (qA U J (nK (rR (f_1 U J (.inl J) J ?_))))))))))
    have ej : j = s.length := by omega
    subst ej
    exact ⟨rfl, (hK.base (by omega)).up (by omega)⟩
theorem rFour_cr {h : Heap} {c : Nat} {s : List Nat} (h256 : ∀ x ∈ s, x < 256) (hn : s.length ≤ 1000000000) :
    CR Tryz.prog ov 117 [.string (txt s)] ⟨h, c⟩ (fun w st => w = .bool (fourL s) ∧ Same h c st) := by
  have hsz := txt_size s
  by_cases h4 : 4 ≤ s.length
  · obtain ⟨x0, x1, x2, x3, t, rfl⟩ : ∃ x0 x1 x2 x3 t, s = x0 :: x1 :: x2 :: x3 :: t := by
      rcases s with _ | ⟨a, _ | ⟨b, _ | ⟨d, _ | ⟨e, t⟩⟩⟩⟩
      · simp at h4
      · simp at h4
      · simp at h4
      · simp at h4
      · exact ⟨a, b, d, e, t, rfl⟩
    have y0 := h256 x0 (by simp)
    have y1 := h256 x1 (by simp)
    have y2 := h256 x2 (by simp)
    have y3 := h256 x3 (by simp)
    have z0 : (UInt8.ofNat x0).toNat = x0 := by simp [UInt8.toNat_ofNat, Nat.mod_eq_of_lt y0]
    have z1 : (UInt8.ofNat x1).toNat = x1 := by simp [UInt8.toNat_ofNat, Nat.mod_eq_of_lt y1]
    have z2 : (UInt8.ofNat x2).toNat = x2 := by simp [UInt8.toNat_ofNat, Nat.mod_eq_of_lt y2]
    have z3 : (UInt8.ofNat x3).toNat = x3 := by simp [UInt8.toNat_ofNat, Nat.mod_eq_of_lt y3]
    have g0 := txt_get (s := x0 :: x1 :: x2 :: x3 :: t) (i := 0) rfl
    have g1 := txt_get (s := x0 :: x1 :: x2 :: x3 :: t) (i := 1) rfl
    have g2 := txt_get (s := x0 :: x1 :: x2 :: x3 :: t) (i := 2) rfl
    have g3 := txt_get (s := x0 :: x1 :: x2 :: x3 :: t) (i := 3) rfl
    have hge : decide (((txt (x0 :: x1 :: x2 :: x3 :: t)).size : Int) ≥ 4) = true := by rw [hsz]; simp at h4 ⊢; omega
    refine e_1 Tryz.func117 rfl (H _ (by decide)) Tryz.ntmps117 (by decide) ?_
    intro env U
    refine sg 1 J (qA U J (nK (rS (rD [] (by decide +kernel) (by decide +kernel) (n := 25) rfl ?_))))
    refine qM U J (qK U J Tryz.underlying9 (qB U J J J (qM U J (qG U J J J hge (qM U J (qG U J J J hge (qJ U J J Tryz.underlying9 oA g0 ?_)))))))
    refine qG U J J J hge (qM U J (qG U J J J hge (qJ U J J Tryz.underlying9 oA g1 ?_)))
    refine qG U J J J hge (qB U J J J (qQ U J J J (if_pos hge) (qM U J ?_)))
    refine q_case U (rfl : lk _ _ 13 = _) (fun ha => ?_) (fun ha => ?_)
    · have ha_ := ha
      try simp only [dz] at ha_
      refine qG U J J J ha (qM U J (qG U J J J ha (qJ U J J Tryz.underlying9 oA g1 ?_)))
      refine qG U J J J ha (qM U J (qG U J J J ha (qJ U J J Tryz.underlying9 oA g2 ?_)))
      refine qG U J J J ha (qB U J J J (qQ U J J J (if_pos ha) (qM U J ?_)))
      refine q_case U (rfl : lk _ _ 20 = _) (fun hb => ?_) (fun hb => ?_)
      · have hb_ := hb
        try simp only [dz] at hb_
        refine qG U J J J hb (qM U J (qG U J J J hb (qJ U J J Tryz.underlying9 oA g2 ?_)))
        refine qG U J J J hb (qM U J (qG U J J J hb (qJ U J J Tryz.underlying9 oA g3 ?_)))
        refine qG U J J J hb (qB U J J J (qQ U J J J (if_pos hb) (qA U J (ro_nild (kN (rR (f_1 U J (.inl J) J ?_)))))))
        refine ⟨?_, rfl, by simp <;> omega⟩
        rw [z0, z1] at ha; rw [z1, z2] at hb; rw [z2, z3]
        have e0 : x0 = x1 := by simp at ha; omega
        have e1 : x1 = x2 := by simp at hb; omega
        subst e0 e1; congr 1; simp only [fourL, beq_self_eq_true, Bool.true_and, Bool.and_true]; rw [Bool.eq_iff_iff]; simp
        omega
      · have hb_ := hb
        try simp only [dz] at hb_
        refine qS U rfl rfl rfl rfl (by rw [hb]; decide) ?_
        refine qS U rfl rfl rfl rfl (by rw [hb]; decide) ?_
        refine qS U rfl rfl rfl rfl (by rw [hb]; decide) ?_
        refine qS U rfl rfl rfl rfl (by rw [hb]; decide) ?_
        refine qS U rfl rfl rfl rfl (by rw [hb]; decide) ?_
        refine qQ U rfl rfl rfl (if_neg (by rw [hb]; decide)) ?_
        refine qA U J (ro_nild (kN (rR (f_1 U J (.inl J) J ?_))))
        refine ⟨?_, rfl, by simp <;> omega⟩
        rw [z1, z2] at hb
        have e1 : (x1 == x2) = false := by simp at hb ⊢; omega
        simp [fourL, e1]
    · have ha_ := ha
      try simp only [dz] at ha_
      refine qS U rfl rfl rfl rfl (by rw [ha]; decide) ?_
      refine qS U rfl rfl rfl rfl (by rw [ha]; decide) ?_
      refine qS U rfl rfl rfl rfl (by rw [ha]; decide) ?_
      refine qS U rfl rfl rfl rfl (by rw [ha]; decide) ?_
      refine qS U rfl rfl rfl rfl (by rw [ha]; decide) ?_
      refine qQ U rfl rfl rfl (if_neg (by rw [ha]; decide)) ?_
      refine qM U J (qS U rfl rfl rfl rfl (by decide) ?_)
      refine qS U rfl rfl rfl rfl (by decide) ?_
      refine qS U rfl rfl rfl rfl (by decide) ?_
      refine qS U rfl rfl rfl rfl (by decide) ?_
      refine qS U rfl rfl rfl rfl (by decide) ?_
      refine qQ U J J J (J) (qA U J (ro_nild (kN (rR (f_1 U J (.inl J) J ?_)))))
      refine ⟨?_, rfl, by simp <;> omega⟩
      rw [z0, z1] at ha
      have e1 : (x0 == x1) = false := by simp at ha ⊢; omega
      simp [fourL, e1]
  · have hge : decide (((txt s).size : Int) ≥ 4) = false := by rw [hsz]; simp; omega
    have hf : fourL s = false := by
      rcases s with _ | ⟨a, _ | ⟨b, _ | ⟨d, _ | ⟨e, t⟩⟩⟩⟩ <;> first | rfl | (simp at h4 <;> omega)
    refine e_1 Tryz.func117 rfl (H _ (by decide)) Tryz.ntmps117 (by decide) ?_
    intro env U
    refine sg 1 J (qA U J (nK (rS (rD [] (by decide +kernel) (by decide +kernel) (n := 25) rfl ?_))))
    refine qM U J (qK U J Tryz.underlying9 (qB U J J J (qM U J (qS U rfl rfl rfl rfl (by rw [hge]; decide) ?_))))
    refine qS U rfl rfl rfl rfl (by rw [hge]; decide) ?_
    refine qS U rfl rfl rfl rfl (by rw [hge]; decide) ?_
    refine qS U rfl rfl rfl rfl (by rw [hge]; decide) ?_
    refine qS U rfl rfl rfl rfl (by rw [hge]; decide) ?_
    refine qQ U rfl rfl rfl (if_neg (by rw [hge]; decide)) ?_
    refine qM U J (qS U rfl rfl rfl rfl (by decide) ?_)
    refine qS U rfl rfl rfl rfl (by decide) ?_
    refine qS U rfl rfl rfl rfl (by decide) ?_
    refine qS U rfl rfl rfl rfl (by decide) ?_
    refine qS U rfl rfl rfl rfl (by decide) ?_
    refine qQ U J J J (J) (qM U J (qS U rfl rfl rfl rfl (by decide) ?_))
    refine qS U rfl rfl rfl rfl (by decide) ?_
    refine qS U rfl rfl rfl rfl (by decide) ?_
    refine qS U rfl rfl rfl rfl (by decide) ?_
    refine qS U rfl rfl rfl rfl (by decide) ?_
    refine qQ U J J J (J) (qA U J (ro_nild (kN (rR (f_1 U J (.inl J) J ?_)))))
    refine ⟨?_, rfl, by simp <;> omega⟩
    rw [hf]
    try rfl
theorem rDecode_cr {h : Heap} {c : Nat} {s : List Nat} (h256 : ∀ x ∈ s, x < 256) (hn : s.length ≤ 1000000) :
    CR Tryz.prog ov 74 [.string (txt s)] ⟨h, c⟩ (fun w st => (match unpk 0 0 s with
      | .ok out => w = .tuple #[.string (txt out), nv 0]
      | .error e => w = .tuple #[nostr, nv e]) ∧ Same h c st) := by
  refine e_1 Tryz.func74 rfl (H _ (by decide)) Tryz.ntmps74 (by decide) ?_
  intro env U
  refine sg 2 J (qA U J (qA U J (nK (sg 1 J (qA U J (nK (rS (rB ?_))))))))
  refine rL (fun m env' s' => ∃ r out, m = r.length ∧ Hd 37 [(0, .string (txt r)), (4, .string (txt out))] env' ∧ Out s out (unpk 0 0 r) ∧ (∀ x ∈ r, x < 256) ∧ r.length ≤ s.length ∧ out.length + 251 * r.length ≤ 251 * s.length ∧ s'.heap = h ∧ c ≤ s'.ctr) s.length ?_ ?_
  · exact ⟨s, [], rfl, Ho U ⟨rfl, rfl, trivial⟩, by unfold Out; cases h : unpk 0 0 s <;> simp [h, Except.map], h256, Nat.le_refl _, by simp, rfl, by dsimp only; omega⟩
  rintro m _ ⟨h2, c2⟩ ⟨r, out, rfl, ⟨env, U, rfl⟩, hO, hr256, hrl, hol, he, hc2⟩
  dsimp only at he hc2
  subst he
  have hsz := txt_size r
  refine rS (sg 3 J (qM U J (qK U J Tryz.underlying9 (qB U J J J (nK ?_)))))
  refine rC U rfl (fun hr0 => ?_) (fun hr0 => ?_)
  · try simp only [dz, dy] at hr0
    have hr00 : 0 < r.length := by omega
    obtain ⟨x, r', rfl⟩ : ∃ x r', r = x :: r' := by cases r with | nil => (simp at hr00) | cons x r' => exact ⟨x, r', rfl⟩
    refine rK (kN (rB (rS (sg 3 J (qM U J (qC U J (CR.mono (rFour_cr H hr256 oA) ?_)))))))
    rintro v ⟨hh1, cc1⟩ ⟨rfl, rfl, hk⟩
    try dsimp only at hk
    refine q_un U J J (nK ?_)
    refine rC U rfl (fun hf => ?_) (fun hf => ?_)
    · try simp only [dz, dy] at hf
      have hf' : fourL (x :: r') = false := by simpa using hf
      refine sg 5 J (qM U J (qM U J (qT (s := x :: r') 0 1 U rfl Tryz.underlying9 rfl rfl ⟨by omega, by simp⟩ ?_)))
      refine qB U rfl rfl (addS _ _ (by simp at hol hrl ⊢; omega)) ?_
      refine qA U J (nK (sg 3 J (qM U J (qT (s := x :: r') 1 (r'.length + 1) U rfl Tryz.underlying9 rfl rfl ⟨by omega, by simp⟩ ?_))))
      refine qA U J (nK (r_exit (kE (kB (kN ?_)))))
      refine ⟨r'.length, by simp, r', out ++ [x], rfl, Ho U ⟨?_, rfl, trivial⟩, hO.app (unpk_not hf'), fun y hy => hr256 y (by simp [hy]), by simp at hrl; omega, by simp at hol ⊢; omega, rfl, by dsimp only at *; omega⟩
      simp [lk, Nat.beq, Nat.blt, Nat.ble]
    · try simp only [dz, dy] at hf
      have hf' : fourL (x :: r') = true := by simpa using hf
      obtain ⟨t, rfl⟩ : ∃ t, r' = x :: x :: x :: t := by rcases r' with _ | ⟨a, _ | ⟨b, _ | ⟨d, t⟩⟩⟩ <;> simp [fourL] at hf'; obtain ⟨⟨q1, q2⟩, q3⟩ := hf'; exact ⟨t, by rw [← q3, ← q2, ← q1]⟩
      rw [unpk_four] at hO
      refine rK (kN (rS (sg 3 J (qM U J (qK U J Tryz.underlying9 ?_)))))
      rw [hsz]
      refine qB U J J J (nK ?_)
      refine rC U rfl (fun h4 => ?_) (fun h4 => ?_)
      · try simp only [dz, dy] at h4
        refine sg 2 J (qA U J (qA U J (nK (rR (kR (k_bloR (kR (k_bloR (kR (f_2 U J (.inl J) J J ?_))))))))))
        have ht : t = [] := by cases t with | nil => rfl | cons y t => (simp at h4; omega)
        subst ht
        have hu : unpk 0 0 s = .error 24 := by rw [show unpk 0 0 s = _ from hO]; simp [unpk, Except.map]
        rw [hu]; exact ⟨rfl, rfl, by dsimp only at *; omega⟩
      · try simp only [dz, dy] at h4
        obtain ⟨y, t', rfl⟩ : ∃ y t', t = y :: t' := by cases t with | nil => (simp at h4) | cons y t' => exact ⟨y, t', rfl⟩
        have hy2 := hr256 y (by simp)
        have hyn : (UInt8.ofNat y).toNat = y := by simp [UInt8.toNat_ofNat, Nat.mod_eq_of_lt hy2]
        have hg4 := txt_get (s := x :: x :: x :: x :: y :: t') (i := 4) rfl
        simp only [List.length_cons] at hrl hol
        refine rK (kN (rS (sg 3 J (qM U J (qJ U J J Tryz.underlying9 oA hg4 ?_)))))
        simp only [hyn]
        refine qB U J J J (nK ?_)
        refine rC U rfl (fun h251 => ?_) (fun h251 => ?_)
        · try simp only [dz, dy] at h251
          refine sg 2 J (qA U J (qA U J (nK (rR (kR (k_bloR (kR (k_bloR (kR (f_2 U J (.inl J) J J ?_))))))))))
          have hu : unpk 0 0 s = .error 25 := by rw [show unpk 0 0 s = _ from hO]; simp only [unpk, if_true]; rw [if_pos (by omega)]; rfl
          rw [hu]; exact ⟨rfl, rfl, by dsimp only at *; omega⟩
        · try simp only [dz, dy] at h251
          refine rK (kN (rS (sg 5 J (qM U J (qJ U J J Tryz.underlying9 oA hg4 ?_)))))
          simp only [hyn]
          refine qH U J Tryz.underlying5 Tryz.underlying3 wA ?_
          refine qP U rfl rfl (m := ((4 + y : Nat) : Int)) (by rw [wrapI oA oA]; omega) ?_
          refine qM U J (nK (rB ?_))
          refine rL (fun m env' s' => ∃ j, m = 4 + y - j ∧ j ≤ 4 + y ∧ Hd 37 [(0, .string (txt (x :: x :: x :: x :: y :: t'))), (4, .string (txt (out ++ List.replicate j x))), (26, nv (4 + y)), (27, nv j)] env' ∧ s'.heap = h2 ∧ cc1 ≤ s'.ctr) (4 + y) ?_ ?_
          · exact ⟨0, rfl, Nat.zero_le _, Ho U ⟨rfl, by rw [List.replicate_zero, List.append_nil]; rfl, rfl, rfl, trivial⟩, rfl, by dsimp only; omega⟩
          rintro m _ ⟨h3, c3⟩ ⟨j, rfl, hj, ⟨env, U, rfl⟩, he, hc3⟩
          dsimp only at he hc3
          subst he
          refine sg 1 J (qB U J J J (nK (rS ?_)))
          refine rC U rfl (fun hjn => ?_) (fun hjn => ?_)
          · try simp only [dz, dy] at hjn
            refine rK (kN (rS (rB (rg 5 J (qM U J (qM U J (qT (s := x :: x :: x :: x :: y :: t') 0 1 U rfl Tryz.underlying9 rfl rfl ⟨by omega, by simp⟩ ?_)))))))
            refine qB U rfl rfl (addS _ _ (by simp; omega)) ?_
            refine qA U J (rN (kO (kN (rg 2 J (qP U J J wA ?_)))))
            refine qM U J (nK ?_)
            exact ⟨4 + y - (j + 1), by omega, j + 1, rfl, by omega, Ho U ⟨rfl, by rw [List.replicate_succ', ← List.append_assoc]; rfl, rfl, rfl, trivial⟩, rfl, by dsimp only; omega⟩
          · try simp only [dz, dy] at hjn
            have ej : j = 4 + y := by omega
            subst ej
            refine r_exit (kE (kE (kB (kN (rg 3 J (qM U J (qT (s := x :: x :: x :: x :: y :: t') 5 (t'.length + 5) U rfl Tryz.underlying9 rfl rfl ⟨by omega, by simp⟩ ?_)))))))
            refine qA U J (rN (kO (kN ?_)))
            refine ⟨t'.length, by simp; omega, t', out ++ List.replicate (4 + y) x, rfl, Ho U ⟨?_, rfl, trivial⟩, ?_, fun z hz => hr256 z (by simp [hz]), by omega, by simp; omega, rfl, by dsimp only at *; omega⟩
            · simp [lk, Nat.beq, Nat.blt, Nat.ble]
            · have e1 : unpk 4 x (y :: t') = (unpk 0 0 t').map (List.replicate y x ++ ·) := by simp only [unpk, if_true]; rw [if_neg (by omega), unpk_prev]
              rw [e1] at hO
              unfold Out at *; rw [hO]; have er4 : List.replicate (4 + y) x = x :: x :: x :: x :: List.replicate y x := (by rw [Nat.add_comm]; rfl); cases unpk 0 0 t' <;> simp [Except.map, er4]
  · try simp only [dz, dy] at hr0
    have hr00 : r.length = 0 := by omega
    have er : r = [] := List.eq_nil_of_length_eq_zero hr00
    subst er
    refine r_exit (kE (kE (kB (kN (sg 3 J (qM U J (qA U J (qA U J (nK (rR (f_2 U J (.inl J) J J ?_)))))))))))
    have hu : unpk 0 0 s = .ok out := by rw [show unpk 0 0 s = _ from hO]; simp [unpk, Except.map]
    rw [hu]; exact ⟨rfl, rfl, by dsimp only; omega⟩
end
theorem unpk_lt {s : List Nat} (h : ∀ x ∈ s, x < 256) : ∀ {run p : Nat} {out : List Nat}, p < 256 → unpk run p s = .ok out → ∀ x ∈ out, x < 256 := by
  induction s with
  | nil => intro run p out hp hu; simp only [unpk] at hu; split at hu <;> cases hu; simp
  | cons x s ih =>
    intro run p out hp hu
    have hx := h x (by simp)
    have ih' := fun {run p out} => ih (fun y hy => h y (by simp [hy])) (run := run) (p := p) (out := out)
    simp only [unpk] at hu
    split at hu
    · split at hu
      · cases hu
      · cases hq : unpk 0 x s with
        | error e' => rw [hq] at hu; cases hu
        | ok y =>
          rw [hq] at hu; cases hu
          intro z hz; rcases List.mem_append.mp hz with q | q
          · rw [List.mem_replicate] at q; omega
          · exact ih' hx hq z q
    · split at hu
      · cases hq : unpk (run + 1) x s with
        | error e' => rw [hq] at hu; cases hu
        | ok y => rw [hq] at hu; cases hu; intro z hz; rcases List.mem_cons.mp hz with q | q; omega; exact ih' hx hq z q
      · cases hq : unpk 1 x s with
        | error e' => rw [hq] at hu; cases hu
        | ok y => rw [hq] at hu; cases hu; intro z hz; rcases List.mem_cons.mp hz with q | q; omega; exact ih' hx hq z q
section
variable {ov : OvT} (H : OvH ov)
include H
theorem rOpen_cr {h : Heap} {c o sum : Nat} {s : List Nat} (h256 : ∀ x ∈ s, x < 256) (hn : s.length ≤ 900000) (ho : o < s.length) (hs : sum < 4294967296) :
    CR Tryz.prog ov 26 [.agg #[.string (txt s), nv o, uv sum]] ⟨h, c⟩ (fun v st => (match openR s o sum with
      | .ok out => v = .tuple #[.string (txt out), nv 0]
      | .error e => v = .tuple #[nostr, nv e]) ∧ Keep [] h c st) := by
  have hsz := txt_size s
  have hD := fun (h' : Heap) (c' : Nat) => rDecode_cr H (h := h') (c := c') (unbw_lt (o := o) h256) (by rw [unbw_len]; omega)
  have hne : ((txt s).toList == (⟨#[]⟩ : ByteArray).toList) = false := by cases s with | nil => simp at ho | cons x s => simp [txt, Go.ByteArray.toList_eq]
  have h1 : decide ((o : Int) < 0) = false := by simp
  have hK0 : Keep [] h c ⟨h.set (c + 0) ⟨(Value.agg #[.string (txt s), nv o, uv sum]).cells.toList, 49, 0⟩, c⟩ := (Keep.refl (Nat.le_refl c)).set (.inl (by omega))
  cases hu : unpk 0 0 (unbw s o) with
  | error e =>
    have he := unpk_err hu
    have ho' : openR s o sum = .error 25 := by simp only [openR, hu]
    rw [ho']
    simp only [hu] at hD
    refine e_1 Tryz.func26 rfl (H _ (by decide)) Tryz.ntmps26 (by decide) ?_
    intro env U
    refine sg 3 J (q_box U J (qA U J (qA U J (nK (rS (sg 3 J (qF U J fa49_0 (qL U J gA ((p9.1 _ _).trans J) ?_))))))))
    refine qB U J J J (nK (rF U rfl (by exact hne) ?_))
    refine rK (kN (rS (sg 11 J (qF U J fa49_1 (qL U J gA ((p3.1 _ _).trans J) ?_)))))
    refine qB U J J J (qM U J (qG U J J J h1 (qF U J fa49_1 (qG U J J J h1 (qL U J gA ((p3.1 _ _).trans J) ?_)))))
    refine qG U J J J h1 (qF U J fa49_0 (qG U J J J h1 (qL U J gA ((p9.1 _ _).trans J) ?_)))
    refine qG U J J J h1 (qK U J Tryz.underlying9 (qG U J J J h1 ?_))
    rw [hsz]
    refine qB U J J J (qQ U rfl rfl rfl (if_neg (by rw [h1]; decide)) ?_)
    refine nK (rF U J dA ?_)
    refine rK (kN (sg 11 J (qF U J fa49_0 (qL U J gA ((p9.1 _ _).trans J) ?_))))
    refine qF U J fa49_1 (qL U J gA ((p3.1 _ _).trans J) ?_)
    refine qC U J (CR.mono (rUnbw_cr H h256 oA ho) ?_)
    rintro v ⟨hh1, cc1⟩ ⟨rfl, hK⟩
    refine qC U J (CR.mono (hD _ _) ?_)
    rintro v ⟨hh2, cc2⟩ ⟨rfl, rfl, hk⟩
    try dsimp only at hk
    refine qM U J (qE U J J (qE U J J (qA U J (qA U J (nK (rS (sg 2 J (qM U J (qB U J J J (nK (rT U rfl (by simp; omega) ?_)))))))))))
    refine sg 2 J (qA U J (qA U J (nK (rR (kR (f_2 U J (.inl J) J J ?_))))))
    exact ⟨rfl, (hK0.call (hK.base (c0 := c) (by omega)) (by simp)).up (by omega)⟩
  | ok out =>
    simp only [hu] at hD
    have hol := unpk_len (unbw_lt (o := o) h256) hu
    rw [unbw_len] at hol
    have hO := unpk_lt (unbw_lt (o := o) h256) (by omega) hu
    refine e_1 Tryz.func26 rfl (H _ (by decide)) Tryz.ntmps26 (by decide) ?_
    intro env U
    refine sg 3 J (q_box U J (qA U J (qA U J (nK (rS (sg 3 J (qF U J fa49_0 (qL U J gA ((p9.1 _ _).trans J) ?_))))))))
    refine qB U J J J (nK (rF U rfl (by exact hne) ?_))
    refine rK (kN (rS (sg 11 J (qF U J fa49_1 (qL U J gA ((p3.1 _ _).trans J) ?_)))))
    refine qB U J J J (qM U J (qG U J J J h1 (qF U J fa49_1 (qG U J J J h1 (qL U J gA ((p3.1 _ _).trans J) ?_)))))
    refine qG U J J J h1 (qF U J fa49_0 (qG U J J J h1 (qL U J gA ((p9.1 _ _).trans J) ?_)))
    refine qG U J J J h1 (qK U J Tryz.underlying9 (qG U J J J h1 ?_))
    rw [hsz]
    refine qB U J J J (qQ U rfl rfl rfl (if_neg (by rw [h1]; decide)) ?_)
    refine nK (rF U J dA ?_)
    refine rK (kN (sg 11 J (qF U J fa49_0 (qL U J gA ((p9.1 _ _).trans J) ?_))))
    refine qF U J fa49_1 (qL U J gA ((p3.1 _ _).trans J) ?_)
    refine qC U J (CR.mono (rUnbw_cr H h256 oA ho) ?_)
    rintro v ⟨hh1, cc1⟩ ⟨rfl, hK⟩
    refine qC U J (CR.mono (hD _ _) ?_)
    rintro v ⟨hh2, cc2⟩ ⟨rfl, rfl, hk⟩
    try dsimp only at hk
    refine qM U J (qE U J J (qE U J J (qA U J (qA U J (nK (rS (sg 2 J (qM U J (qB U J J J (nK (rF U J dA ?_)))))))))))
    refine rK (kN (rS (rS (rD [(3, 0)] (by decide +kernel) (by decide +kernel) (n := 5) rfl ?_))))
    have hcc1 := hK.1
    dsimp only at hcc1
    have hb1 := (hK.2 (c + 0) (by omega) (by simp)).trans ((T.get_set _ _ _ _).trans (if_pos rfl))
    refine qM U J (qC U J (CR.mono (rOf_cr H hO oA) ?_))
    rintro v ⟨hh3, cc3⟩ ⟨rfl, rfl, hk⟩
    try dsimp only at hk
    refine qF U J fa49_2 (qL U J gA ((p38.1 _ _).trans J) ?_)
    refine qB U J J J ?_
    refine ro_nilp ?_ ?_
    · exact all1 (pair_load U rfl rfl rfl rfl ((heapAt_old rfl (by omega)).trans hb1) ((p38.1 _ _).trans rfl) rfl (same_int _ _))
    refine kN ?_
    refine rC U rfl (fun hne2 => ?_) (fun hne2 => ?_)
    · try simp only [dz, dy] at hne2
      refine sg 2 J (qA U J (qA U J (nK (rR (kR (f_2 U J (.inl J) J J ?_))))))
      have e1 : openR s o sum = .error 21 := by simp only [openR, hu]; rw [if_neg (by omega)]
      rw [e1]
      exact ⟨rfl, (hK0.call (hK.base (c0 := c) (by omega)) (by simp)).up (by omega)⟩
    · try simp only [dz, dy] at hne2
      refine rK (kN (sg 3 J (qM U J (qA U J (qA U J (nK (rR (f_2 U J (.inl J) J J ?_))))))))
      have e1 : openR s o sum = .ok out := by simp only [openR, hu]; rw [if_pos (by simp only [bne_eq_false_iff_eq] at hne2; omega)]
      rw [e1]
      exact ⟨rfl, (hK0.call (hK.base (c0 := c) (by omega)) (by simp)).up (by omega)⟩
end
theorem ones_le (a : List Bool) : ones a ≤ a.length := by
  induction a with
  | nil => simp [ones]
  | cons t a ih => cases t <;> simp [ones]; omega
section
variable {ov : OvT} (H : OvH ov)
include H
theorem rOnes_cr {h : Heap} {c : Nat} {L : List Bool} (hL : L.length ≤ 1000000) :
    CR Tryz.prog ov 199 [.string (zs L)] ⟨h, c⟩ (fun w st => w = nv (ones L) ∧ Same h c st) := by
  have hsz : (zs L).size = L.length := by rw [txt_size, zl_len]
  refine e_1 Tryz.func199 rfl (H _ (by decide)) Tryz.ntmps199 (by decide) ?_
  intro env U
  refine sg 1 J (qA U J (nK (sg 1 J (qA U J (nK (rS (rB ?_)))))))
  refine rL (fun m env' s' => ∃ j, m = L.length - j ∧ j ≤ L.length ∧ ones (L.take j) = j ∧ Hd 17 [(0, .string (zs L)), (3, nv j)] env' ∧ s'.heap = h ∧ c ≤ s'.ctr) L.length ?_ ?_
  · exact ⟨0, rfl, Nat.zero_le _, rfl, Ho U ⟨rfl, rfl, trivial⟩, rfl, by dsimp only; omega⟩
  rintro m _ ⟨h2, c2⟩ ⟨j, rfl, hj, hon, ⟨env, U, rfl⟩, he, hc2⟩
  dsimp only at he hc2
  subst he
  have hat := ones_at (t := L.length) hon hj hj
  rw [List.take_length] at hat
  refine rS (sg 10 J (qM U J (qM U J (qK U J Tryz.underlying9 ?_))))
  rw [hsz]
  refine qB U J J J (qM U J ?_)
  refine q_case U (rfl : lk _ _ 8 = _) (fun hg => ?_) (fun hg => ?_)
  · have hg_ := hg
    try simp only [dz] at hg_
    obtain ⟨t, ht⟩ : ∃ t, L[j]? = some t := ⟨_, List.getElem?_eq_getElem (by omega)⟩
    have hd1 := drop_cons ht
    refine qG U J J J hg (qM U J (qG U J J J hg (qM U J (qG U J J J hg (qJ U J J Tryz.underlying9 oA (txt_get (zl_get ht)) ?_)))))
    refine qG U J J J hg ?_
    simp only [zb_nat]
    refine qB U J J J (qQ U J J J (if_pos hg) (nK ?_))
    refine rC U rfl (fun h49 => ?_) (fun h49 => ?_)
    · try simp only [dz, dy] at h49
      have htt : t = true := by cases t with | true => rfl | false => (simp at h49)
      subst htt
      refine rK (kN (rB (rg 3 J (qM U J (qP U J J wA ?_)))))
      refine qA U J (rN (kO (kN ?_)))
      refine ⟨L.length - (j + 1), by omega, j + 1, rfl, by omega, ?_, Ho U ⟨rfl, rfl, trivial⟩, rfl, by dsimp only; omega⟩
      rw [ones_at hon (show j ≤ j + 1 by omega) hj, hd1, Nat.add_sub_cancel_left]; rfl
    · try simp only [dz, dy] at h49
      have htt : t = false := by cases t with | false => rfl | true => (simp at h49)
      subst htt
      refine r_exit (kE (kE (kB (kN (sg 2 J (qM U J (qA U J (nK (rR (f_1 U J (.inl J) J ?_))))))))))
      have e1 : ones L = j := by rw [hat, hd1, show L.length - j = (L.length - j - 1) + 1 by omega]; simp [ones]
      rw [e1]; exact ⟨rfl, rfl, by dsimp only; omega⟩
  · have hg_ := hg
    try simp only [dz] at hg_
    refine qS U rfl rfl rfl rfl (by rw [hg]; decide) ?_
    refine qS U rfl rfl rfl rfl (by rw [hg]; decide) ?_
    refine qS U rfl rfl rfl rfl (by rw [hg]; decide) ?_
    refine qS U rfl rfl rfl rfl (by rw [hg]; decide) ?_
    refine qQ U rfl rfl rfl (if_neg (by rw [hg]; decide)) ?_
    refine nK (rF U J dA ?_)
    refine r_exit (kE (kE (kB (kN (sg 2 J (qM U J (qA U J (nK (rR (f_1 U J (.inl J) J ?_))))))))))
    have ej : j = L.length := by omega
    have e1 : ones L = j := by rw [hat, List.drop_eq_nil_of_le (by omega)]; simp [ones]
    rw [e1]; exact ⟨rfl, rfl, by dsimp only; omega⟩
theorem rTouch_cr {h : Heap} {c i : Nat} {l : List Nat} (hi : i < l.length) (hL : l.length ≤ 1000000) :
    CR Tryz.prog ov 181 [.string (txt l), nv i] ⟨h, c⟩ (fun w st => w = .string (txt (moved l i)) ∧ Same h c st) := by
  obtain ⟨x, hx⟩ : ∃ x, l[i]? = some x := ⟨_, List.getElem?_eq_getElem hi⟩
  have hm : [x] ++ ((l.drop 0).take (i - 0)) ++ ((l.drop (i + 1)).take (l.length - (i + 1))) = moved l i := by
    have e : (l.drop (i + 1)).take (l.length - (i + 1)) = l.drop (i + 1) := List.take_of_length_le (by simp)
    rw [e, moved, List.eraseIdx_eq_take_drop_succ, List.getD_eq_getElem?_getD, hx]; simp
  refine e_2 Tryz.func181 rfl (H _ (by decide)) Tryz.ntmps181 (by decide) ?_
  intro env U
  refine sg 1 J (qA U J (nK (rS (rD [] (by decide +kernel) (by decide +kernel) (n := 15) rfl ?_))))
  refine qM U J (qM U J (qM U J (qP U J J wA ?_)))
  refine qT (s := l) i (i + 1) U rfl Tryz.underlying9 rfl rfl ⟨by omega, by omega⟩ ?_
  simp only [take1 hx]
  refine qM U J (qM U J (qT (s := l) 0 i U rfl Tryz.underlying9 rfl rfl ⟨by omega, by omega⟩ ?_))
  refine qB U rfl rfl (addS _ _ (by simp; omega)) ?_
  refine qM U J (qM U J (qP U J J wA ?_))
  refine qT (s := l) (i + 1) l.length U rfl Tryz.underlying9 rfl rfl ⟨by omega, by omega⟩ ?_
  refine qB U rfl rfl (addS _ _ (by simp; omega)) ?_
  refine qA U J (ro_nild (kN (rR (f_1 U J (.inl J) J ?_))))
  exact ⟨by rw [← hm], rfl, by dsimp only; omega⟩
end
theorem idx_take {L : List Bool} {i k : Nat} {t : Bool} (h : L[i]? = some t) : idx (L.take (i + 1)) k = idx (L.take i) k ++ (if t then [k + i] else []) := by
  have hi : i < L.length := by rcases Nat.lt_or_ge i L.length with q | q; exact q; rw [List.getElem?_eq_none q] at h; cases h
  rw [List.take_add_one, h, idx_append]
  have e : (L.take i).length = i := by rw [List.length_take]; omega
  rw [e]; cases t <;> simp [idx]
section
variable {ov : OvT} (H : OvH ov)
include H
theorem rUsed_cr {h : Heap} {c : Nat} {L : List Bool} (hL : L.length ≤ 1000000) :
    CR Tryz.prog ov 144 [.string (zs L)] ⟨h, c⟩ (fun v st => (match usedR L with
      | .ok (s, n) => v = .agg #[.string (txt s), nv n, nv 0]
      | .error e => v = .agg #[nostr, nv 0, nv e]) ∧ Keep [] h c st) := by
  have hsz : (zs L).size = L.length := by rw [txt_size, zl_len]
  by_cases h16 : L.length < 16
  · have hu : usedR L = .error 3 := by simp only [usedR]; rw [if_pos h16]
    rw [hu]
    refine e_1 Tryz.func144 rfl (H _ (by decide)) Tryz.ntmps144 (by decide) ?_
    intro env U
    refine sg 1 J (qZ i200 z200 J (nK (rS (sg 3 J (qM U J (qK U J Tryz.underlying9 ?_))))))
    rw [hsz]
    refine qB U J J J (nK (rT U J dA ?_))
    refine sg 2 J (qU U rfl i200 z200 rfl (by simp [Program.built, Instr.fill, Tryz.underlying200, Value.cells]; rfl) ?_)
    refine qV U rfl rfl gA p200 rfl rfl (by simp [Value.cells]) ?_
    refine nK (rR (kR (f_c U J (.inl J) J  (T.get_set _ _ _ _ |>.trans (if_pos J)) ((p200.1 _ _).trans J) ?_)))
    exact ⟨rfl, (((Keep.refl (Nat.le_refl c)).set (.inl (by omega))).set (.inl (by omega))).up (by omega)⟩
  · have hul : usedR L = match rowsR (idx (L.take 16) 0) (L.drop 16) with
      | none => .error 3
      | some (s, n) => if s = [] then .error 25 else .ok (s, 16 + n) := by simp only [usedR]; rw [if_neg h16]; rfl
    have hd16 : (L.drop 16).length = L.length - 16 := List.length_drop
    refine e_1 Tryz.func144 rfl (H _ (by decide)) Tryz.ntmps144 (by decide) ?_
    intro env U
    refine sg 1 J (qZ i200 z200 J (nK (rS (sg 3 J (qM U J (qK U J Tryz.underlying9 ?_))))))
    rw [hsz]
    refine qB U J J J (nK (rF U J dA ?_))
    refine rK (kN (sg 1 J (qA U J (nK (sg 1 J (qA U J (nK (rS (sg 1 J (qM U J (nK (rB ?_))))))))))))
    refine rL (fun m env' s' => ∃ i s n, m = 16 - i ∧ i ≤ 16 ∧ Hd 52 [(0, .string (zs L)), (2, ptr c), (3, nv (16 + n)), (4, .string (txt s)), (11, nv i)] env' ∧ rowsR (idx (L.take i) 0) (L.drop 16) = some (s, n) ∧ s.length ≤ n ∧ n ≤ 16 * i ∧ s'.heap.get c = some ⟨[nostr, nv 0, nv 0], 200, 0⟩ ∧ c + 1 ≤ s'.ctr ∧ Keep [] h c s') 16 ?_ ?_
    · exact ⟨0, [], 0, rfl, by omega, Ho U ⟨rfl, rfl, rfl, rfl, rfl, trivial⟩, rfl, by simp, by simp, (T.get_set _ _ _ _).trans (if_pos rfl), by dsimp only; omega, ((Keep.refl (Nat.le_refl c)).set (.inl (by omega))).up (by omega)⟩
    rintro m _ ⟨h2, c2⟩ ⟨i, s, n, rfl, hi, ⟨env, U, rfl⟩, hrw, hsn, hni, hb0, hc2, hK⟩
    dsimp only at hb0 hc2
    refine sg 1 J (qB U J J J (nK (rS ?_)))
    refine rC U rfl (fun hi16 => ?_) (fun hi16 => ?_)
    · try simp only [dz, dy] at hi16
      obtain ⟨t, ht⟩ : ∃ t, L[i]? = some t := ⟨_, List.getElem?_eq_getElem (by omega)⟩
      have hix := idx_take (k := 0) ht
      refine rK (kN (rS (rB (sg 2 J (qM U J (qA U J (nK (rS (sg 4 J (qM U J (qM U J (qJ U J J Tryz.underlying9 oA (txt_get (zl_get ht)) ?_))))))))))))
      simp only [zb_nat]
      refine qB U J J J (nK ?_)
      refine rC U rfl (fun hne => ?_) (fun hne => ?_)
      · try simp only [dz, dy] at hne
        have htt : t = false := by cases t with | false => rfl | true => (simp at hne)
        subst htt
        refine r_exit (kE (kB (kN (rg 2 J (qP U J J wA ?_)))))
        refine qM U J (nK ?_)
        exact ⟨16 - (i + 1), by omega, i + 1, s, n, rfl, by omega, Ho U ⟨rfl, rfl, rfl, rfl, rfl, trivial⟩, by rw [hix]; simpa using hrw, hsn, by omega, hb0, by dsimp only; omega, hK.up (by omega)⟩
      · try simp only [dz, dy] at hne
        have htt : t = true := by cases t with | true => rfl | false => (simp at hne)
        subst htt
        have hsnoc := rowsR_snoc _ i _ _ _ hrw
        simp only [if_true, Nat.zero_add] at hix
        rw [← hix] at hsnoc
        refine rK (kN (rS (sg 5 J (qM U J (qK U J Tryz.underlying9 ?_)))))
        rw [hsz]
        refine qM U J (qP U J J wA ?_)
        refine qB U J J J (nK ?_)
        refine rC U rfl (fun hsh => ?_) (fun hsh => ?_)
        · try simp only [dz, dy] at hsh
          refine sg 2 J (qU U rfl i200 z200 rfl (by simp [Program.built, Instr.fill, Tryz.underlying200, Value.cells]; rfl) ?_)
          refine qV U rfl rfl (by first | assumption | (simp only [gs, hb0]; rfl) | (simp [gs, hb0]; try rfl)) p200 rfl rfl (by simp [Value.cells]) ?_
          refine nK (rR (kR (k_bloR (kR (kR (k_bloR (kR (f_c U J (.inl J) J  (T.get_set _ _ _ _ |>.trans (if_pos J)) ((p200.1 _ _).trans J) ?_))))))))
          have hn0 : rowsR (idx (L.take (i + 1)) 0) (L.drop 16) = none := by rw [hsnoc, if_pos (by omega)]
          have hsp : idx (L.take 16) 0 = idx (L.take (i + 1)) 0 ++ idx ((L.drop (i + 1)).take (15 - i)) (0 + (L.take (i + 1)).length) := by rw [← idx_append, ← List.take_add]; congr 2; omega
          rw [hul, hsp, rowsR_none _ _ _ hn0]
          exact ⟨rfl, (hK.set (.inl (by omega))).up (by omega)⟩
        · try simp only [dz, dy] at hsh
          rw [if_neg (by omega), List.drop_drop] at hsnoc
          refine rK (kN (rS (sg 1 J (qM U J (nK (rB ?_))))))
          refine rL (fun m env' s' => ∃ j, m = 16 - j ∧ j ≤ 16 ∧ Hd 52 [(0, .string (zs L)), (2, ptr c), (3, nv (16 + n)), (5, nv i), (11, nv i), (4, .string (txt (s ++ idx ((L.drop (16 + n)).take j) (16 * i)))), (24, nv j)] env' ∧ s'.heap.get c = some ⟨[nostr, nv 0, nv 0], 200, 0⟩ ∧ c2 ≤ s'.ctr ∧ Keep [] h c s') 16 ?_ ?_
          · exact ⟨0, rfl, by omega, Ho U ⟨rfl, rfl, rfl, rfl, rfl, by simp [idx, lk, Nat.beq, Nat.blt, Nat.ble], rfl, trivial⟩, hb0, by dsimp only; omega, hK.up (by omega)⟩
          rintro m _ ⟨h3, c3⟩ ⟨j, rfl, hj, ⟨env, U, rfl⟩, hb0, hc3, hK⟩
          dsimp only at hb0 hc3
          refine sg 1 J (qB U J J J (nK (rS ?_)))
          refine rC U rfl (fun hj16 => ?_) (fun hj16 => ?_)
          · try simp only [dz, dy] at hj16
            obtain ⟨t, ht2⟩ : ∃ t, L[16 + n + j]? = some t := ⟨_, List.getElem?_eq_getElem (by omega)⟩
            have hjx : (L.drop (16 + n))[j]? = some t := by rw [List.getElem?_drop]; exact ht2
            have hiy := idx_take (k := 16 * i) hjx
            have hxle := idx_le ((L.drop (16 + n)).take j) (16 * i); rw [List.length_take] at hxle
            refine rK (kN (rS (rB (sg 2 J (qM U J (qA U J (nK (sg 6 J (qM U J (qM U J (qM U J (qP U J J wA ?_))))))))))))
            refine qJ U rfl rfl Tryz.underlying9 oA (by have := txt_get (zl_get ht2); rw [show (((16 + n : Nat) : Int) + (j : Int)).toNat = 16 + n + j by omega]; exact this) ?_
            simp only [zb_nat]
            refine qB U J J J (nK ?_)
            refine rC U rfl (fun h1 => ?_) (fun h1 => ?_)
            · try simp only [dz, dy] at h1
              have htt : t = true := by cases t with | true => rfl | false => (simp at h1)
              subst htt
              have hxn : (UInt8.ofNat (16 * i + j)).toNat = 16 * i + j := by simp [UInt8.toNat_ofNat]; omega
              refine rg 10 J (qM U J (qM U J (q_mul U J J wA ?_)))
              refine qM U J (qP U J J wA ?_)
              refine qH U rfl Tryz.underlying3 Tryz.underlying5 (m := ((16 * i + j : Nat) : Int)) (by rw [wrapU8 oA oA]; omega) ?_
              refine q1_ U J a102 J (qY U rfl Tryz.underlying102 Tryz.underlying9 Tryz.underlying5 (bs := [UInt8.ofNat (16 * i + j)]) (.inr ⟨_, rfl, rfl, by simp only [List.map_cons, List.map_nil, hxn]; exact (T.get_set _ _ _ _).trans (if_pos rfl), by simp, by omega⟩) ?_)
              refine qB U rfl rfl (addS (s ++ idx ((L.drop (16 + n)).take j) (16 * i)) [16 * i + j] (by rw [List.length_append]; simp; omega)) ?_
              refine qA U J (rN (kO (kN (rg 2 J (qP U J J wA ?_)))))
              refine qM U J (nK ?_)
              refine ⟨16 - (j + 1), by omega, j + 1, rfl, by omega, Ho U ⟨rfl, rfl, rfl, rfl, rfl, by rw [hiy, if_pos rfl, ← List.append_assoc]; rfl, rfl, trivial⟩, ?_, by dsimp only; omega, (hK.set (.inl oA)).up oA⟩
              dsimp only; rw [T.get_set, if_neg (by omega)]; exact hb0
            · try simp only [dz, dy] at h1
              have htt : t = false := by cases t with | false => rfl | true => (simp at h1)
              subst htt
              refine rK (kO (kN (rg 2 J (qP U J J wA ?_))))
              refine qM U J (nK ?_)
              exact ⟨16 - (j + 1), by omega, j + 1, rfl, by omega, Ho U ⟨rfl, rfl, rfl, rfl, rfl, by rw [hiy]; simp [lk, Nat.beq, Nat.blt, Nat.ble], rfl, trivial⟩, hb0, by dsimp only; omega, hK.up (by omega)⟩
          · try simp only [dz, dy] at hj16
            have ej : j = 16 := by omega
            subst ej
            have hxle := idx_le ((L.drop (16 + n)).take 16) (16 * i); rw [List.length_take] at hxle
            refine r_exit (kE (kE (kB (kN (rg 3 J (qM U J (qP U J J wA ?_)))))))
            refine qA U J (rN (kO (kN (rg 2 J (qP U J J wA ?_)))))
            refine qM U J (nK ?_)
            refine ⟨16 - (i + 1), by omega, i + 1, _, n + 16, rfl, by omega, Ho U ⟨rfl, rfl, ?_, rfl, rfl, trivial⟩, hsnoc, by rw [List.length_append]; omega, by omega, hb0, by dsimp only; omega, hK.up oA⟩
            have e1 : ((16 + n : Nat) : Int) + 16 = ((16 + (n + 16) : Nat) : Int) := by omega
            exact congrArg (fun z => some (Value.int .i64 z)) e1
    · try simp only [dz, dy] at hi16
      have ei : i = 16 := by omega
      subst ei
      rw [hrw] at hul
      refine r_exit (kE (kE (kB (kN (rS (sg 2 J (qM U J (qB U J J J (nK ?_)))))))))
      refine rC U rfl (fun hs => ?_) (fun hs => ?_)
      · try simp only [dz, dy] at hs
        refine sg 2 J (qU U rfl i200 z200 rfl (by simp [Program.built, Instr.fill, Tryz.underlying200, Value.cells]; rfl) ?_)
        refine qV U rfl rfl (by first | assumption | (simp only [gs, hb0]; rfl) | (simp [gs, hb0]; try rfl)) p200 rfl rfl (by simp [Value.cells]) ?_
        refine nK (rR (kR (f_c U J (.inl J) J  (T.get_set _ _ _ _ |>.trans (if_pos J)) ((p200.1 _ _).trans J) ?_)))
        have hs0 : s = [] := by simpa [txt, Go.ByteArray.toList_eq] using hs
        rw [hul]; simp only [hs0, if_true]
        exact ⟨rfl, (hK.set (.inl (by omega))).up (by omega)⟩
      · try simp only [dz, dy] at hs
        refine rK (kN (sg 4 J (qM U J (qM U J (qU U rfl i200 z200 rfl (by simp [Program.built, Instr.fill, Tryz.underlying200, Value.cells]; rfl) ?_)))))
        refine qV U rfl rfl (by first | assumption | (simp only [gs, hb0]; rfl) | (simp [gs, hb0]; try rfl)) p200 rfl rfl (by simp [Value.cells]) ?_
        refine nK (rR (f_c U J (.inl J) J  (T.get_set _ _ _ _ |>.trans (if_pos J)) ((p200.1 _ _).trans J) ?_))
        have hs0 : s ≠ [] := by simpa [txt, Go.ByteArray.toList_eq] using hs
        rw [hul]; simp only [hs0, if_false]
        exact ⟨rfl, (hK.set (.inl (by omega))).up (by omega)⟩
end
def deFin (d : De) (l : List Bool) : Bool := d.done
def DeltaR (size : Nat) (L : List Bool) (r : Except Nat (De × Nat)) : Prop := Runs De.step deFin L ⟨size, 0, []⟩ 0 r
section
variable {ov : OvT} (H : OvH ov)
include H
theorem rDelta_cr {h : Heap} {c size : Nat} {L : List Bool} (hL : L.length ≤ 1000000) (hz : 3 ≤ size ∧ size ≤ 258) :
    CR Tryz.prog ov 200 [.string (zs L), nv size] ⟨h, c⟩ (fun v st => (∃ r, DeltaR size L r ∧ match r with
      | .ok (d, n) => ∃ a cp, v = .agg #[.slice a d.lens.length cp, nv n, nv 0] ∧ SlR 3 1 (d.lens.map nv) a d.lens.length cp st.heap.get ∧ (∀ z ∈ own a, c ≤ z ∧ z < st.ctr)
      | .error e => v = .agg #[nilS, nv 0, nv e]) ∧ Keep [] h c st) := by
  have hsz : (zs L).size = L.length := by rw [txt_size, zl_len]
  have hf0 : deFin ⟨size, 0, []⟩ (L.drop 0) = false := by simp [deFin, De.done]; omega
  have hERR : ∀ {e : Nat} {h3 : Heap} {c3 : Nat} {v : Value}, DeltaR size L (.error e) → v = .agg #[nilS, nv 0, nv e] → (∃ r, DeltaR size L r ∧ match r with
      | .ok (d, n) => ∃ a cp, v = .agg #[.slice a d.lens.length cp, nv n, nv 0] ∧ SlR 3 1 (d.lens.map nv) a d.lens.length cp h3.get ∧ (∀ z ∈ own a, c ≤ z ∧ z < c3)
      | .error e => v = .agg #[nilS, nv 0, nv e]) := fun q1 q2 => ⟨_, q1, q2⟩
  by_cases h5 : L.length < 5
  · skip
    refine e_2 Tryz.func200 rfl (H _ (by decide)) Tryz.ntmps200 (by decide) ?_
    intro env U
    refine sg 1 J (qZ i272 z272 J (nK (rS (sg 3 J (qM U J (qK U J Tryz.underlying9 ?_))))))
    rw [hsz]
    refine qB U J J J (nK (rT U J dA ?_))
    refine sg 2 J (qU U rfl i272 z272 rfl (by simp [Program.built, Instr.fill, Tryz.underlying272, Value.cells]; rfl) ?_)
    refine qV U rfl rfl gA p272 rfl rfl (by simp [Value.cells]) ?_
    refine nK (rR (kR (f_c U J (.inl J) J  (T.get_set _ _ _ _ |>.trans (if_pos J)) ((p272.1 _ _).trans J) ?_)))
    refine ⟨hERR (e := 3) (.fail hf0 ?_) rfl, (((Keep.refl (Nat.le_refl c)).set (.inl oA)).set (.inl oA)).up oA⟩
    simp only [De.step, List.drop_zero, if_true]; rw [if_pos h5]
  · have e5 : (L.take 5).length = 5 := by rw [List.length_take]; omega
    have hlt5 := num_lt (L.take 5); rw [e5] at hlt5
    have hz5 : ((zl L).drop 0).take (5 - 0) = zl (L.take 5) := by simp [zl]
    refine e_2 Tryz.func200 rfl (H _ (by decide)) Tryz.ntmps200 (by decide) ?_
    intro env U
    refine sg 1 J (qZ i272 z272 J (nK (rS (sg 3 J (qM U J (qK U J Tryz.underlying9 ?_))))))
    rw [hsz]
    refine qB U J J J (nK (rF U J dA ?_))
    refine rK (kN (sg 5 J (qM U J (qT (s := zl L) 0 5 U rfl Tryz.underlying9 rfl rfl ⟨by omega, by rw [zl_len]; omega⟩ ?_))))
    simp only [hz5]
    refine qC U J (CR.mono (rNumber_cr H (L := L.take 5) oA) ?_)
    rintro v ⟨hh1, cc1⟩ ⟨rfl, rfl, hk⟩
    try dsimp only at hk
    refine qH U J Tryz.underlying38 Tryz.underlying3 wA ?_
    refine qA U J (nK (rS (sg 6 J (qM U J (qB U J J J (qM U J ?_))))))
    refine q_case U (rfl : lk _ _ 18 = _) (fun hlo => ?_) (fun hlo => ?_)
    · have hlo_ := hlo
      try simp only [dz] at hlo_
      refine qS U rfl rfl rfl rfl (by rw [hlo]; decide) ?_
      refine qS U rfl rfl rfl rfl (by rw [hlo]; decide) ?_
      refine qQ U J J J (if_pos hlo) (nK (rT U rfl (by rfl) ?_))
      refine sg 2 J (qU U rfl i272 z272 rfl (by simp [Program.built, Instr.fill, Tryz.underlying272, Value.cells]; rfl) ?_)
      refine qV U rfl rfl gA p272 rfl rfl (by simp [Value.cells]) ?_
      refine nK (rR (kR (f_c U J (.inl J) J  (T.get_set _ _ _ _ |>.trans (if_pos J)) ((p272.1 _ _).trans J) ?_)))
      refine ⟨hERR (e := 22) (.fail hf0 ?_) rfl, (((Keep.refl (Nat.le_refl c)).set (.inl oA)).set (.inl oA)).up oA⟩
      simp only [De.step, List.drop_zero, if_true]; rw [if_neg h5, if_pos (by omega)]
    · have hlo_ := hlo
      try simp only [dz] at hlo_
      refine qG U J J J hlo (qM U J (qG U J J J hlo (qB U J J J (qQ U rfl rfl rfl (if_neg (by rw [hlo]; decide)) ?_))))
      refine nK ?_
      refine rC U rfl (fun hhi => ?_) (fun hhi => ?_)
      · try simp only [dz, dy] at hhi
        refine sg 2 J (qU U rfl i272 z272 rfl (by simp [Program.built, Instr.fill, Tryz.underlying272, Value.cells]; rfl) ?_)
        refine qV U rfl rfl gA p272 rfl rfl (by simp [Value.cells]) ?_
        refine nK (rR (kR (f_c U J (.inl J) J  (T.get_set _ _ _ _ |>.trans (if_pos J)) ((p272.1 _ _).trans J) ?_)))
        refine ⟨hERR (e := 22) (.fail hf0 ?_) rfl, (((Keep.refl (Nat.le_refl c)).set (.inl oA)).set (.inl oA)).up oA⟩
        simp only [De.step, List.drop_zero, if_true]; rw [if_neg h5, if_pos (by omega)]
      · try simp only [dz, dy] at hhi
        have hst0 : De.step ⟨size, 0, []⟩ (L.drop 0) = .ok (⟨size, num (L.take 5), []⟩, 5) := by simp only [De.step, List.drop_zero, if_true]; rw [if_neg h5, if_neg (by omega)]
        refine rK (kN (sg 1 J (qA U J (nK (sg 1 J (qA U J (nK (rS (rB ?_)))))))))
        refine rL (fun m env' s' => ∃ now lens a cp n, m = L.length + 1 - n ∧ n ≤ L.length ∧ 1 ≤ now ∧ now ≤ 20 ∧ lens.length ≤ size ∧ Hd 69 [(0, .string (zs L)), (1, nv size), (4, ptr c), (5, nv now), (6, .slice a lens.length cp), (7, nv n)] env' ∧ (∀ r, Runs De.step deFin L ⟨size, now, lens⟩ n r → DeltaR size L r) ∧ SlR 3 1 (lens.map nv) a lens.length cp s'.heap.get ∧ (∀ z ∈ own a, c + 1 ≤ z ∧ z < s'.ctr) ∧ s'.heap.get c = some ⟨[nilS, nv 0, nv 0], 272, 0⟩ ∧ c + 1 ≤ s'.ctr ∧ Keep [] h c s') (L.length + 1 - 5) ?_ ?_
        · exact ⟨num (L.take 5), [], none, 0, 5, by omega, by omega, by omega, by omega, Nat.zero_le _, Ho U ⟨rfl, rfl, rfl, rfl, rfl, rfl, trivial⟩, fun r q => .more hf0 hst0 q, SlR.nil, by simp [own], (T.get_set _ _ _ _).trans (if_pos rfl), by dsimp only; omega, ((Keep.refl (Nat.le_refl c)).set (.inl (by omega))).up (by omega)⟩
        rintro m _ ⟨h2, c2⟩ ⟨now, lens, a, cp, n, rfl, hn, hw1, hw2, hls, ⟨env, U, rfl⟩, hRuns, hS, hO, hb0, hc2, hK⟩
        dsimp only at hS hO hb0 hc2
        refine rS (sg 4 J (qM U J (q_lenL U J Tryz.underlying171 (qM U J (qB U J J J (nK ?_))))))
        refine rC U rfl (fun hlt => ?_) (fun hlt => ?_)
        · try simp only [dz, dy] at hlt
          have hfin : deFin ⟨size, now, lens⟩ (L.drop n) = false := by simp [deFin, De.done]; omega
          refine rK (kN (rB (rS (sg 4 J (qM U J (qM U J (qK U J Tryz.underlying9 ?_)))))))
          rw [hsz]
          refine qB U J J J (nK ?_)
          refine rC U rfl (fun hend => ?_) (fun hend => ?_)
          · try simp only [dz, dy] at hend
            refine sg 2 J (qU U rfl i272 z272 rfl (by simp [Program.built, Instr.fill, Tryz.underlying272, Value.cells]; rfl) ?_)
            refine qV U rfl rfl gA p272 rfl rfl (by simp [Value.cells]) ?_
            refine nK (rR (kR (k_bloR (kR (k_bloR (kR (f_c U J (.inl J) J  (T.get_set _ _ _ _ |>.trans (if_pos J)) ((p272.1 _ _).trans J) ?_)))))))
            refine ⟨hERR (e := 3) (hRuns _ (.fail hfin ?_)) rfl, (hK.set (.inl oA)).up oA⟩
            rw [List.drop_eq_nil_of_le (by omega)]; simp only [De.step]; rw [if_neg (by omega)]
          · try simp only [dz, dy] at hend
            obtain ⟨t, ht⟩ : ∃ t, L[n]? = some t := ⟨_, List.getElem?_eq_getElem (by omega)⟩
            have hd1 := drop_cons ht
            refine rK (kN (rS (sg 4 J (qM U J (qM U J (qJ U J J Tryz.underlying9 oA (txt_get (zl_get ht)) ?_))))))
            simp only [zb_nat]
            refine qB U J J J (nK ?_)
            refine rC U rfl (fun hbit => ?_) (fun hbit => ?_)
            · try simp only [dz, dy] at hbit
              have htt : t = false := by cases t with | false => rfl | true => (simp at hbit)
              subst htt
              have hst : De.step ⟨size, now, lens⟩ (L.drop n) = .ok (⟨size, now, lens ++ [now]⟩, 1) := by rw [hd1]; simp only [De.step]; rw [if_neg (by omega)]
              refine sg 5 J (qM U J (qM U J (q1_ U J a171 J (qX U rfl rfl a171 a171 (hS.move (fun z hz => by have := hO z hz; rw [T.get_set, if_neg oA])) ((T.get_set _ _ _ _).trans (if_pos rfl)) rfl oA oA ?_))))
              intro a2 cp2 h4 hS2 hO2 hF2
              have hbc := (hF2 c (by omega) (fun m => by have := hO c m; omega)).trans ((T.get_set _ _ _ _).trans ((if_neg (by omega)).trans hb0))
              refine qA U J (nK (sg 3 J (qM U J (qP U J J wA ?_))))
              refine qA U J (nK (r_exit (kE (kB (kN ?_)))))
              refine ⟨L.length + 1 - (n + 1), by omega, now, lens ++ [now], a2, cp2, n + 1, rfl, by omega, hw1, hw2, by simp; omega, Ho U ⟨rfl, rfl, rfl, rfl, by rw [List.length_append]; rfl, rfl, trivial⟩, fun r q => hRuns r (.more hfin hst q), by rw [List.map_append, List.length_append]; exact hS2, fun z hz => by have := hO2 z hz; dsimp only; omega, hbc, by dsimp only; omega, hK.app2 hF2 (fun z hz => .inl (by have := hO z hz; omega)) oA oA oA⟩
            · try simp only [dz, dy] at hbit
              have htt : t = true := by cases t with | true => rfl | false => (simp at hbit)
              subst htt
              refine rK (kN (rS (sg 5 J (qM U J (qP U J J wA ?_)))))
              refine qM U J (qK U J Tryz.underlying9 ?_)
              rw [hsz]
              refine qB U J J J (nK ?_)
              refine rC U rfl (fun hend2 => ?_) (fun hend2 => ?_)
              · try simp only [dz, dy] at hend2
                refine sg 2 J (qU U rfl i272 z272 rfl (by simp [Program.built, Instr.fill, Tryz.underlying272, Value.cells]; rfl) ?_)
                refine qV U rfl rfl gA p272 rfl rfl (by simp [Value.cells]) ?_
                refine nK (rR (kR (k_bloR (kR (k_bloR (kR (f_c U J (.inl J) J  (T.get_set _ _ _ _ |>.trans (if_pos J)) ((p272.1 _ _).trans J) ?_)))))))
                refine ⟨hERR (e := 3) (hRuns _ (.fail hfin ?_)) rfl, (hK.set (.inl oA)).up oA⟩
                rw [hd1, List.drop_eq_nil_of_le (by omega)]; simp only [De.step]; rw [if_neg (by omega)]
              · try simp only [dz, dy] at hend2
                obtain ⟨t, ht2⟩ : ∃ t, L[n + 1]? = some t := ⟨_, List.getElem?_eq_getElem (by omega)⟩
                have hd2 := drop_cons ht2
                refine rK (kN (rS (sg 5 J (qM U J (qM U J (qP U J J wA ?_))))))
                refine qJ U rfl rfl Tryz.underlying9 oA (by have := txt_get (zl_get ht2); rw [show ((n : Int) + 1).toNat = n + 1 by omega]; exact this) ?_
                simp only [zb_nat]
                refine qB U J J J (nK ?_)
                refine rC U rfl (fun hbit2 => ?_) (fun hbit2 => ?_)
                · try simp only [dz, dy] at hbit2
                  have htt : t = false := by cases t with | false => rfl | true => (simp at hbit2)
                  subst htt
                  refine rg 3 J (qM U J (qP U J J wA ?_))
                  refine qA U J (nK (rS (sg 6 J (qM U J (qB U J J J (qM U J ?_))))))
                  refine q_case U (rfl : lk _ _ 59 = _) (fun hx => ?_) (fun hx => ?_)
                  · have hx_ := hx
                    try simp only [dz] at hx_
                    omega
                  · have hx_ := hx
                    try simp only [dz] at hx_
                    refine qG U J J J hx (qM U J (qG U J J J hx (qB U J J J (qQ U rfl rfl rfl (if_neg (by rw [hx]; decide)) ?_))))
                    refine nK ?_
                    refine rC U rfl (fun h21 => ?_) (fun h21 => ?_)
                    · try simp only [dz, dy] at h21
                      refine sg 2 J (qU U rfl i272 z272 rfl (by simp [Program.built, Instr.fill, Tryz.underlying272, Value.cells]; rfl) ?_)
                      refine qV U rfl rfl gA p272 rfl rfl (by simp [Value.cells]) ?_
                      refine nK (rR (kR (k_bloR (kR (k_bloR (kR (f_c U J (.inl J) J  (T.get_set _ _ _ _ |>.trans (if_pos J)) ((p272.1 _ _).trans J) ?_)))))))
                      refine ⟨hERR (e := 22) (hRuns _ (.fail hfin ?_)) rfl, (hK.set (.inl oA)).up oA⟩
                      rw [hd1, hd2]; simp only [De.step]; rw [if_neg (by omega)]; rw [if_pos (by omega)]
                    · try simp only [dz, dy] at h21
                      have hst : De.step ⟨size, now, lens⟩ (L.drop n) = .ok (⟨size, now + 1, lens⟩, 2) := by rw [hd1, hd2]; simp only [De.step]; rw [if_neg (by omega)]; rw [if_neg (by omega)]
                      refine rK (kN (rg 3 J (qM U J (qP U J J wA ?_))))
                      refine qA U J (rN (kO (kN ?_)))
                      exact ⟨L.length + 1 - (n + 2), by omega, now + 1, lens, a, cp, n + 2, rfl, by omega, by omega, by omega, hls, Ho U ⟨rfl, rfl, rfl, rfl, rfl, rfl, trivial⟩, fun r q => hRuns r (.more hfin hst q), hS, fun z hz => by have := hO z hz; dsimp only; omega, hb0, by dsimp only; omega, hK.up (by omega)⟩
                · try simp only [dz, dy] at hbit2
                  have htt : t = true := by cases t with | true => rfl | false => (simp at hbit2)
                  subst htt
                  refine rg 3 J (qM U J (q_sub U J J wA ?_))
                  refine qA U J (nK (rS (sg 6 J (qM U J (qB U J J J (qM U J ?_))))))
                  refine q_case U (rfl : lk _ _ 59 = _) (fun hx => ?_) (fun hx => ?_)
                  · have hx_ := hx
                    try simp only [dz] at hx_
                    refine qS U rfl rfl rfl rfl (by rw [hx]; decide) ?_
                    refine qS U rfl rfl rfl rfl (by rw [hx]; decide) ?_
                    refine qQ U J J J (if_pos hx) (nK (rT U rfl (by rfl) ?_))
                    refine sg 2 J (qU U rfl i272 z272 rfl (by simp [Program.built, Instr.fill, Tryz.underlying272, Value.cells]; rfl) ?_)
                    refine qV U rfl rfl gA p272 rfl rfl (by simp [Value.cells]) ?_
                    refine nK (rR (kR (k_bloR (kR (k_bloR (kR (f_c U J (.inl J) J  (T.get_set _ _ _ _ |>.trans (if_pos J)) ((p272.1 _ _).trans J) ?_)))))))
                    refine ⟨hERR (e := 22) (hRuns _ (.fail hfin ?_)) rfl, (hK.set (.inl oA)).up oA⟩
                    rw [hd1, hd2]; simp only [De.step]; rw [if_neg (by omega)]; rw [if_pos (by omega)]
                  · have hx_ := hx
                    try simp only [dz] at hx_
                    refine qG U J J J hx (qM U J (qG U J J J hx (qB U J J J (qQ U rfl rfl rfl (if_neg (by rw [hx]; decide)) ?_))))
                    refine nK (rF U J dA ?_)
                    refine rK (kN (rg 3 J ?_))
                    have hst : De.step ⟨size, now, lens⟩ (L.drop n) = .ok (⟨size, now - 1, lens⟩, 2) := by rw [hd1, hd2]; simp only [De.step]; rw [if_neg (by omega)]; rw [if_neg (by omega)]
                    refine qM U J (qP U J J wA ?_)
                    refine qA U J (rN (kO (kN ?_)))
                    refine ⟨L.length + 1 - (n + 2), by omega, now - 1, lens, a, cp, n + 2, rfl, by omega, by omega, by omega, hls, Ho U ⟨rfl, rfl, rfl, ?_, rfl, rfl, trivial⟩, fun r q => hRuns r (.more hfin hst q), hS, fun z hz => by have := hO z hz; dsimp only; omega, hb0, by dsimp only; omega, hK.up oA⟩
                    have e1 : (now : Int) - 1 = ((now - 1 : Nat) : Int) := by omega
                    exact congrArg (fun z => some (Value.int .i64 z)) e1
        · try simp only [dz, dy] at hlt
          have hle : lens.length = size := by omega
          refine r_exit (kE (kE (kB (kN (sg 4 J (qM U J (qM U J (qU U rfl i272 z272 rfl (by simp [Program.built, Instr.fill, Tryz.underlying272, Value.cells]; rfl) ?_))))))))
          refine qV U rfl rfl gA p272 rfl rfl (by simp [Value.cells]) ?_
          refine nK (rR (f_c U J (.inl J) J  (T.get_set _ _ _ _ |>.trans (if_pos J)) ((p272.1 _ _).trans J) ?_))
          refine ⟨⟨.ok (⟨size, now, lens⟩, n), hRuns _ (.stop (by simp [deFin, De.done, hle])), a, cp, rfl, hS.move (fun z hz => by have := hO z hz; dsimp only; rw [T.get_set, if_neg oA]), fun z hz => by have := hO z hz; dsimp only; omega⟩, (hK.set (.inl oA)).up oA⟩
end
section
variable {ov : OvT} (H : OvH ov)
include H
theorem rMay_cr {h : Heap} {c n cp : Nat} {l : List Nat} {a : Option Addr} (hS : SlR 3 1 (l.map nv) a n cp h.get) (hn : n ≤ 1000000) (hx : ∀ x ∈ l, 1 ≤ x ∧ x ≤ 20) :
    CR Tryz.prog ov 221 [.slice a n cp, nv 1, nv 20] ⟨h, c⟩ (fun v st => v = .bool true ∧ Same h c st) := by
  have hln : l.length = n := by have := hS.len; simpa using this
  refine e_3 Tryz.func221 rfl (H _ (by decide)) Tryz.ntmps221 (by decide) ?_
  intro env U
  refine sg 1 J (qA U J (nK (rS (sg 3 J (qM U J (q_lenL U J Tryz.underlying171 (qM U J (nK (rB ?_)))))))))
  refine rL (fun m env' s' => ∃ j, m = n - j ∧ j ≤ n ∧ Hd 24 [(1, nv 1), (2, nv 20), (9, .slice a n cp), (10, nv n), (11, nv j)] env' ∧ s'.heap = h ∧ c ≤ s'.ctr) n ?_ ?_
  · exact ⟨0, rfl, Nat.zero_le _, Ho U ⟨rfl, rfl, rfl, rfl, rfl, trivial⟩, rfl, by dsimp only; omega⟩
  rintro m _ ⟨h2, c2⟩ ⟨j, rfl, hj, ⟨env, U, rfl⟩, he, hc2⟩
  dsimp only at he hc2
  subst he
  refine sg 1 J (qB U J J J (nK (rS ?_)))
  refine rC U rfl (fun hjn => ?_) (fun hjn => ?_)
  · try simp only [dz, dy] at hjn
    obtain ⟨x, hx1⟩ : ∃ x, l[j]? = some x := ⟨_, List.getElem?_eq_getElem (by omega)⟩
    have hx2 := hx x (List.mem_of_getElem? hx1)
    obtain ⟨mb, rfl, rfl, hmb⟩ := hS.pos (by omega)
    refine rK (kN (rS (rB (sg 3 J (qI U rfl rfl e171 ⟨by omega, by omega⟩ ?_)))))
    refine qL U rfl aA ((p3.1 _ _).trans (by simp [hx1])) (v := nv x) ?_
    refine qA U J (nK (sg 8 J (qM U J (qM U J (qB U J J J (qM U J ?_))))))
    refine q_case U (rfl : lk _ _ 18 = _) (fun hlo => ?_) (fun hlo => ?_)
    · have hlo_ := hlo
      try simp only [dz] at hlo_
      omega
    · have hlo_ := hlo
      try simp only [dz] at hlo_
      refine qG U J J J hlo (qM U J (qG U J J J hlo (qM U J (qG U J J J hlo (qB U J J J (qQ U rfl rfl rfl (if_neg (by rw [hlo]; decide)) ?_))))))
      refine nK (rF U J dA ?_)
      refine rK (kO (kN (rg 2 J (qP U J J wA ?_))))
      refine qM U J (nK ?_)
      exact ⟨n - (j + 1), by omega, j + 1, rfl, by omega, Ho U ⟨rfl, rfl, rfl, rfl, rfl, trivial⟩, rfl, by dsimp only; omega⟩
  · try simp only [dz, dy] at hjn
    refine r_exit (kE (kE (kB (kN (sg 1 J (qA U J (nK (rR (f_1 U J (.inl J) J ?_)))))))))
    exact ⟨rfl, rfl, by dsimp only; omega⟩
theorem rShare_cr {h : Heap} {c n cp : Nat} {l : List Nat} {a : Option Addr} (hS : SlR 3 1 (l.map nv) a n cp h.get) (hn : n ≤ 258) (hx : ∀ x ∈ l, x ≤ 20) :
    CR Tryz.prog ov 222 [.slice a n cp] ⟨h, c⟩ (fun v st => v = nv (share l) ∧ Same h c st) := by
  have hln : l.length = n := by have := hS.len; simpa using this
  refine e_1 Tryz.func222 rfl (H _ (by decide)) Tryz.ntmps222 (by decide) ?_
  intro env U
  refine sg 1 J (qA U J (nK (sg 1 J (qA U J (nK (rS (sg 3 J (qM U J (q_lenL U J Tryz.underlying171 (qM U J (nK (rB ?_))))))))))))
  refine rL (fun m env' s' => ∃ j, m = n - j ∧ j ≤ n ∧ Hd 25 [(7, .slice a n cp), (8, nv n), (9, nv j), (3, nv (share (l.take j)))] env' ∧ s'.heap = h ∧ c ≤ s'.ctr) n ?_ ?_
  · exact ⟨0, rfl, Nat.zero_le _, Ho U ⟨rfl, rfl, rfl, rfl, trivial⟩, rfl, by dsimp only; omega⟩
  rintro m _ ⟨h2, c2⟩ ⟨j, rfl, hj, ⟨env, U, rfl⟩, he, hc2⟩
  dsimp only at he hc2
  subst he
  refine sg 1 J (qB U J J J (nK (rS ?_)))
  refine rC U rfl (fun hjn => ?_) (fun hjn => ?_)
  · try simp only [dz, dy] at hjn
    obtain ⟨x, hx1⟩ : ∃ x, l[j]? = some x := ⟨_, List.getElem?_eq_getElem (by omega)⟩
    have hx2 := hx x (List.mem_of_getElem? hx1)
    obtain ⟨mb, rfl, rfl, hmb⟩ := hS.pos (by omega)
    have htk : share (l.take (j + 1)) = share (l.take j) + 2 ^ (20 - x) := by rw [List.take_add_one, hx1]; exact share_snoc _ _
    have hle := share_le (l.take j); rw [List.length_take] at hle
    have hle2 : share (l.take j) ≤ 258 * 2 ^ 20 := Nat.le_trans hle (Nat.mul_le_mul_right _ (by omega))
    refine rK (kN (rS (rB (sg 3 J (qI U rfl rfl e171 ⟨by omega, by omega⟩ ?_)))))
    refine qL U rfl aA ((p3.1 _ _).trans (by simp [hx1])) (v := nv x) ?_
    refine qA U J (nK (sg 1 J (qA U J (nK (rS (sg 3 J (qM U J (q_sub U rfl rfl (m := ((20 - x : Nat) : Int)) (by rw [wrapI oA oA]; omega) ?_))))))))
    refine qM U J (nK (rB ?_))
    refine rL (fun m env' s' => ∃ k, m = 20 - x - k ∧ k ≤ 20 - x ∧ Hd 25 [(7, .slice (some ⟨mb, 0, none⟩) n 1), (8, nv n), (9, nv j), (3, nv (share (l.take j))), (6, nv (2 ^ k)), (14, nv (20 - x)), (15, nv k)] env' ∧ s'.heap = h2 ∧ c2 ≤ s'.ctr) (20 - x) ?_ ?_
    · exact ⟨0, rfl, Nat.zero_le _, Ho U ⟨rfl, rfl, rfl, rfl, rfl, rfl, rfl, trivial⟩, rfl, by dsimp only; omega⟩
    rintro m _ ⟨h3, c3⟩ ⟨k, rfl, hk, ⟨env, U, rfl⟩, he, hc3⟩
    dsimp only at he hc3
    subst he
    obtain ⟨pw, hpw⟩ : ∃ pw, pw = 2 ^ k := ⟨_, rfl⟩
    have hp2 : pw ≤ 2 ^ 20 := by rw [hpw]; exact Nat.pow_le_pow_right (by omega) (by omega)
    refine sg 1 J ?_
    skip
    refine qB U J J J (nK (rS ?_))
    refine rC U rfl (fun hkx => ?_) (fun hkx => ?_)
    · try simp only [dz, dy] at hkx
      rw [← hpw]
      have hp3 : 2 ^ (k + 1) = 2 * pw := by rw [hpw, Nat.pow_succ, Nat.mul_comm]
      refine rK (kN (rS (rB (rg 3 J (qM U J (q_mul U rfl rfl (m := ((2 * pw : Nat) : Int)) (by rw [wrapI oA oA]; omega) ?_))))))
      refine qA U J (rN (kO (kN (rg 2 J (qP U J J wA ?_)))))
      refine qM U J (nK ?_)
      exact ⟨20 - x - (k + 1), by omega, k + 1, rfl, by omega, Ho U ⟨rfl, rfl, rfl, rfl, by rw [hp3]; rfl, rfl, rfl, trivial⟩, rfl, by dsimp only; omega⟩
    · try simp only [dz, dy] at hkx
      have ek : k = 20 - x := by omega
      subst ek
      rw [← hpw]
      rw [← hpw] at htk
      refine r_exit (kE (kE (kB (kN (rg 4 J (qM U J (qM U J (qP U rfl rfl (m := ((share (l.take j) + pw : Nat) : Int)) (by rw [wrapI oA oA]; omega) ?_))))))))
      refine qA U J (rN (kO (kN (rg 2 J (qP U J J wA ?_)))))
      refine qM U J (nK ?_)
      exact ⟨n - (j + 1), by omega, j + 1, rfl, by omega, Ho U ⟨rfl, rfl, rfl, by rw [htk]; rfl, trivial⟩, rfl, by dsimp only; omega⟩
  · try simp only [dz, dy] at hjn
    refine r_exit (kE (kE (kB (kN (sg 2 J (qM U J (qA U J (nK (rR (f_1 U J (.inl J) J ?_))))))))))
    have ej : j = n := by omega
    subst ej
    rw [List.take_of_length_le (by omega)]
    exact ⟨rfl, rfl, by dsimp only; omega⟩
theorem rWhole_cr {h : Heap} {c n cp : Nat} {l : List Nat} {a : Option Addr} (hS : SlR 3 1 (l.map nv) a n cp h.get) (hn : n ≤ 258) (hx : ∀ x ∈ l, 1 ≤ x ∧ x ≤ 20) :
    CR Tryz.prog ov 201 [.slice a n cp] ⟨h, c⟩ (fun v st => v = .bool (whole l) ∧ Same h c st) := by
  refine e_1 Tryz.func201 rfl (H _ (by decide)) Tryz.ntmps201 (by decide) ?_
  intro env U
  refine sg 1 J (qA U J (nK (sg 8 J (qM U J (qC U J (CR.mono (rMay_cr H hS oA hx) ?_))))))
  rintro v ⟨hh1, cc1⟩ ⟨rfl, rfl, hk⟩
  try dsimp only at hk
  refine qM U J (qG U J J J J (qM U J (qG U J J J J (qC U J (CR.mono (rShare_cr H hS hn (fun x q => (hx x q).2)) ?_)))))
  rintro v ⟨hh2, cc2⟩ ⟨rfl, rfl, hk⟩
  try dsimp only at hk
  refine qG U J J J J (qB U J J J (qQ U J J J (if_pos J) (qA U J (nK (rR (f_1 U J (.inl J) J ?_))))))
  refine ⟨?_, rfl, by dsimp only at *; omega⟩
  congr 1; rw [Bool.eq_iff_iff]; simp [whole]
  omega
end
theorem zl_inj : ∀ {a b : List Bool}, (zl a).map UInt8.ofNat = (zl b).map UInt8.ofNat → a = b
  | [], [], _ => rfl
  | [], y :: b, h => by simp [zl] at h
  | x :: a, [], h => by simp [zl] at h
  | x :: a, y :: b, h => by
    simp only [zl, List.map_cons, List.cons.injEq] at h
    have h1 : x = y := by
      have := h.1; cases x <;> cases y <;> first | rfl | (exact absurd this (by decide))
    rw [h1, zl_inj (a := a) (b := b) h.2]
theorem zs_eq (a b : List Bool) : ((zs a).toList == (zs b).toList) = (a == b) := by
  rw [Bool.eq_iff_iff]
  simp only [beq_iff_eq, Go.ByteArray.toList_eq]
  constructor
  · intro h; exact zl_inj (by simpa [txt] using h)
  · rintro rfl; rfl
section
variable {ov : OvT} (H : OvH ov)
include H
theorem rBegins_cr {h : Heap} {c : Nat} {A C : List Bool} :
    CR Tryz.prog ov 202 [.string (zs A), .string (zs C)] ⟨h, c⟩ (fun v st => v = .bool (decide (C.length ≤ A.length) && (A.take C.length == C)) ∧ Same h c st) := by
  have hA : (zs A).size = A.length := by rw [txt_size, zl_len]
  have hC : (zs C).size = C.length := by rw [txt_size, zl_len]
  have hz : ((zl A).drop 0).take (C.length - 0) = zl (A.take C.length) := by simp [zl]
  refine e_2 Tryz.func202 rfl (H _ (by decide)) Tryz.ntmps202 (by decide) ?_
  intro env U
  refine sg 1 J (qA U J (nK (sg 14 J (qM U J (qK U J Tryz.underlying9 (qM U J (qK U J Tryz.underlying9 ?_)))))))
  rw [hA, hC]
  refine qB U J J J (qM U J ?_)
  refine q_case U (rfl : lk _ _ 10 = _) (fun hg => ?_) (fun hg => ?_)
  · have hg_ := hg
    try simp only [dz] at hg_
    refine qG U J J J hg (qM U J (qG U J J J hg (qM U J (qG U J J J hg (qK U J Tryz.underlying9 (qG U J J J hg ?_))))))
    rw [hC]
    refine qT (s := zl A) 0 C.length U rfl Tryz.underlying9 rfl rfl ⟨by omega, by rw [zl_len]; omega⟩ ?_
    refine qG U J J J hg ?_
    simp only [hz]
    refine qM U J (qG U J J J hg (qB U J J J (qQ U J J J (if_pos hg) (qA U J (nK (rR (f_1 U J (.inl J) J ?_)))))))
    refine ⟨?_, rfl, by simp <;> omega⟩
    have q : C.length ≤ A.length := by omega
    simp only [q, decide_true, Bool.true_and]; rw [← zs_eq]
  · have hg_ := hg
    try simp only [dz] at hg_
    refine qS U rfl rfl rfl rfl (by rw [hg]; decide) ?_
    refine qS U rfl rfl rfl rfl (by rw [hg]; decide) ?_
    refine qS U rfl rfl rfl rfl (by rw [hg]; decide) ?_
    refine qS U rfl rfl rfl rfl (by rw [hg]; decide) ?_
    refine qS U rfl rfl rfl rfl (by rw [hg]; decide) ?_
    refine qS U rfl rfl rfl rfl (by rw [hg]; decide) ?_
    refine qQ U rfl rfl rfl (if_neg (by rw [hg]; decide)) ?_
    refine qA U J (nK (rR (f_1 U J (.inl J) J ?_)))
    refine ⟨?_, rfl, by simp <;> omega⟩
    have q : ¬ C.length ≤ A.length := by omega
    simp [q]
end
theorem idx_len (b : List Bool) : ∀ k, (idx b k).length = b.count true := by
  induction b with
  | nil => intro k; rfl
  | cons t b ih => intro k; cases t <;> simp [idx, ih]
theorem those_len (l : List Nat) (n : Nat) : (those l n).length = l.count n := by
  rw [those, idx_len]
  induction l with
  | nil => rfl
  | cons x l ih => simp only [List.map_cons, List.count_cons, ih]; by_cases q : x = n <;> simp [q]
theorem firstC_cons (x : Nat) (l : List Nat) : ∀ n, firstC (x :: l) n = firstC l n + if x < n then 2 ^ (n - x) else 0
  | 0 => by simp [firstC]
  | n + 1 => by
    rw [firstC, firstC_cons x l n, firstC, those_len, those_len, List.count_cons]
    by_cases h1 : x < n
    · rw [if_pos h1, if_pos (show x < n + 1 by omega), show n + 1 - x = (n - x) + 1 by omega, Nat.pow_succ]
      have : (x == n) = false := by simp; omega
      simp [this]; omega
    · rw [if_neg h1]
      by_cases h2 : x = n
      · subst h2; simp; omega
      · rw [if_neg (show ¬ x < n + 1 by omega)]; have : (x == n) = false := by simpa using h2
        simp [this]
theorem firstC_nil : ∀ n, firstC [] n = 0
  | 0 => rfl
  | n + 1 => by rw [firstC, firstC_nil n]; rfl
theorem firstC_21 {l : List Nat} (h : ∀ x ∈ l, x ≤ 20) : firstC l 21 = 2 * share l := by
  induction l with
  | nil => rw [firstC_nil]; rfl
  | cons x l ih =>
    have hx := h x (by simp)
    rw [firstC_cons, ih (fun y hy => h y (by simp [hy])), if_pos (by omega), show 21 - x = (20 - x) + 1 by omega, Nat.pow_succ]
    simp only [share, List.map_cons, List.sum_cons]; omega
theorem firstC_step (l : List Nat) {m : Nat} : ∀ {n : Nat}, m ≤ n → (firstC l m + (those l m).length) * 2 ^ (n + 1 - m) ≤ firstC l (n + 1)
  | 0, h => by have : m = 0 := by omega
               subst this; simp [firstC]; omega
  | n + 1, h => by
    have e2 : firstC l (n + 1 + 1) = 2 * (firstC l (n + 1) + (those l (n + 1)).length) := rfl
    by_cases e : m = n + 1
    · subst e; rw [e2, show n + 1 + 1 - (n + 1) = 1 by omega]; omega
    · have := firstC_step l (m := m) (n := n) (by omega)
      rw [show n + 1 + 1 - m = (n + 1 - m) + 1 by omega, Nat.pow_succ, ← Nat.mul_assoc, e2]; omega
theorem code_le {l : List Nat} (h : ∀ x ∈ l, 1 ≤ x ∧ x ≤ 20) (hw : whole l = true) {n : Nat} (hn : n ≤ 20) : firstC l n + (those l n).length ≤ 2 ^ n := by
  have h1 := firstC_step l hn
  have h2 : share l = 2 ^ 20 := by simpa [whole] using hw
  rw [firstC_21 (fun x q => (h x q).2), h2] at h1
  have h3 : 2 * 2 ^ 20 = 2 ^ n * 2 ^ (20 + 1 - n) := by rw [← Nat.pow_add, show n + (20 + 1 - n) = 21 by omega]
  rw [h3] at h1
  exact Nat.le_of_mul_le_mul_right h1 (Nat.two_pow_pos _)
theorem code_full {l : List Nat} (h : ∀ x ∈ l, 1 ≤ x ∧ x ≤ 20) (hw : whole l = true) : firstC l 20 + (those l 20).length = 2 ^ 20 := by
  have h1 := firstC_21 (fun x q => (h x q).2)
  have h2 : share l = 2 ^ 20 := by simpa [whole] using hw
  rw [firstC] at h1; omega
theorem getC_law {l : List Nat} (hw : firstC l 20 + (those l 20).length = 2 ^ 20) : ∀ (b P : List Bool), (∀ m, m ≤ P.length → firstC l m + (those l m).length ≤ num (P.take m)) →
    match getC l (P.length + 1) (num P) b with
    | .ok (s, m) => m ≤ P.length + b.length ∧ ∃ k, (those l m)[k]? = some s ∧ num ((P ++ b).take m) = firstC l m + k ∧ ∀ m', m' < m → firstC l m' + (those l m').length ≤ num ((P ++ b).take m')
    | .error e => e = 3 ∧ ∀ m, m ≤ P.length + b.length → firstC l m + (those l m).length ≤ num ((P ++ b).take m) := by
  intro b
  have hlt : ∀ P : List Bool, (∀ m, m ≤ P.length → firstC l m + (those l m).length ≤ num (P.take m)) → P.length < 20 := by
    intro P h
    rcases Nat.lt_or_ge P.length 20 with q | q
    · exact q
    · have h1 := h 20 q; have h2 := num_lt (P.take 20); rw [List.length_take, Nat.min_eq_left q] at h2; omega
  induction b with
  | nil =>
    intro P h
    have := hlt P h
    simp only [getC]; rw [if_neg (by omega)]
    exact ⟨rfl, fun m hm => by simpa using h m (by simpa using hm)⟩
  | cons t b ih =>
    intro P h
    have U := hlt P h
    have hv : 2 * num P + t.toNat = num (P ++ [t]) := (num_snoc P t).symm
    simp only [getC]; rw [if_neg (by omega), hv]
    have hf : firstC l (P.length + 1) ≤ num (P ++ [t]) := by
      have := h P.length (Nat.le_refl _); rw [List.take_length] at this
      rw [firstC, ← hv]; omega
    have htk : ∀ m', m' ≤ P.length → (P ++ t :: b).take m' = P.take m' := fun m' hm => List.take_append_of_le_length hm
    have htn : (P ++ t :: b).take (P.length + 1) = P ++ [t] := by
      have e : P ++ t :: b = (P ++ [t]) ++ b := by simp
      rw [e, List.take_append_of_le_length (by simp), List.take_of_length_le (by simp)]
    by_cases hc : num (P ++ [t]) < firstC l (P.length + 1) + (those l (P.length + 1)).length
    · rw [if_pos hc]
      have hk : num (P ++ [t]) - firstC l (P.length + 1) < (those l (P.length + 1)).length := by omega
      refine ⟨by simp, num (P ++ [t]) - firstC l (P.length + 1), ?_, by rw [htn]; omega, fun m' hm => by rw [htk m' oA]; exact h m' oA⟩
      rw [List.getD_eq_getElem?_getD, List.getElem?_eq_getElem hk]; rfl
    · rw [if_neg hc]
      have := ih (P ++ [t]) (fun m hm => by
        rw [List.length_append] at hm; simp only [List.length_cons, List.length_nil] at hm
        by_cases e : m = P.length + 1
        · subst e; rw [List.take_of_length_le (by simp)]; omega
        · rw [List.take_append_of_le_length (by omega)]; exact h m (by omega))
      simp only [List.length_append, List.length_cons, List.length_nil, List.append_assoc, List.cons_append, List.nil_append] at this
      rw [show P.length + (t :: b).length = P.length + (0 + 1) + b.length by simp; omega]
      exact this
def rank (l : List Nat) (i n : Nat) : Nat := (idx ((l.map (· == n)).take i) 0).length
def codeN (l : List Nat) (i : Nat) : Nat := firstC l (l.getD i 0) + rank l i (l.getD i 0)
def codeB (l : List Nat) (i : Nat) : List Bool := bitsN (l.getD i 0) (codeN l i)
def codesL (l : List Nat) : List (List Bool) := (List.range l.length).map (codeB l)
def begB (A C : List Bool) : Bool := decide (C.length ≤ A.length) && (A.take C.length == C)
theorem codesL_get {l : List Nat} {i : Nat} (h : i < l.length) : (codesL l)[i]? = some (codeB l i) := by simp [codesL, h]
theorem codeB_of {l : List Nat} {i n : Nat} (h : l[i]? = some n) : codeB l i = bitsN n (firstC l n + rank l i n) := by
  have e : l.getD i 0 = n := by rw [List.getD_eq_getElem?_getD, h]; rfl
  simp only [codeB, codeN, e]
theorem codeB_len {l : List Nat} {i n : Nat} (h : l[i]? = some n) : (codeB l i).length = n := by rw [codeB_of h, bitsN_len]
theorem Asc.inj {l : List Nat} (h : Asc l) : ∀ {a b x : Nat}, l[a]? = some x → l[b]? = some x → a = b := by
  induction l with
  | nil => intro a b x h1; simp at h1
  | cons y l ih =>
    intro a b x h1 h2
    cases a with
    | zero => cases b with
      | zero => rfl
      | succ b => simp at h1 h2; subst h1; have := h.1 y (List.mem_of_getElem? h2); omega
    | succ a => cases b with
      | zero => simp at h1 h2; subst h2; have := h.1 y (List.mem_of_getElem? h1); omega
      | succ b => simp at h1 h2; rw [ih h.2 h1 h2]
theorem those_rank {l : List Nat} {i n : Nat} (h : l[i]? = some n) : (those l n)[rank l i n]? = some i := by
  have hi : i < l.length := by rcases Nat.lt_or_ge i l.length with q | q; exact q; rw [List.getElem?_eq_none q] at h; cases h
  have e : those l n = idx ((l.map (· == n)).take i) 0 ++ idx ((l.map (· == n)).drop i) (0 + ((l.map (· == n)).take i).length) := by rw [← idx_append, List.take_append_drop]; rfl
  have e2 : ((l.map (· == n)).take i).length = i := by simp; omega
  have e3 : (l.map (· == n)).drop i = true :: (l.map (· == n)).drop (i + 1) := drop_cons (by rw [List.getElem?_map, h]; simp)
  rw [e, e2, e3, rank, List.getElem?_append_right (Nat.le_refl _), Nat.sub_self]; simp [idx]
theorem those_inj {l : List Nat} {n k s : Nat} (h : (those l n)[k]? = some s) : l[s]? = some n ∧ k = rank l s n := by
  have h1 := (idx_mem _ _ _).mp (List.mem_of_getElem? h)
  have h2 : l[s]? = some n := by
    have := h1.2; rw [Nat.sub_zero, List.getElem?_map] at this
    cases hs : l[s]? with
    | none => rw [hs] at this; cases this
    | some x => rw [hs] at this; simp at this; rw [this]
  exact ⟨h2, (idx_asc _ _).inj h (those_rank h2)⟩
theorem num_bitsN : ∀ (n v : Nat), num (bitsN n v) = v % 2 ^ n
  | 0, v => by simp [bitsN, num, Nat.mod_one]
  | n + 1, v => by
    rw [bitsN, num_snoc, num_bitsN n, Nat.pow_succ, Nat.mul_comm (2 ^ n) 2, Nat.mod_mul]
    rcases Nat.mod_two_eq_zero_or_one v with q | q <;> rw [q] <;> simp <;> omega
theorem bitsN_num (L : List Bool) : bitsN L.length (num L) = L := by
  have : ∀ n (L : List Bool), L.length = n → bitsN n (num L) = L := by
    intro n; induction n with
    | zero => intro L h; rw [List.length_eq_zero_iff.mp h]; rfl
    | succ n ih =>
      intro L h
      have hne : L ≠ [] := by rintro rfl; cases h
      obtain ⟨L', t, rfl⟩ : ∃ L' t, L = L' ++ [t] := ⟨_, _, (List.dropLast_concat_getLast hne).symm⟩
      rw [num_snoc, bitsN, show (2 * num L' + t.toNat) / 2 = num L' by cases t <;> simp <;> omega, ih L' (by simpa using h)]
      cases t <;> simp <;> omega
  exact this _ L rfl
theorem get_law {l : List Nat} (h : ∀ x ∈ l, 1 ≤ x ∧ x ≤ 20) (hw : whole l = true) (A : List Bool) :
    match getC l 1 0 A with
    | .ok (s, m) => (codesL l).findIdx? (begB A) = some s ∧ l[s]? = some m
    | .error e => e = 3 ∧ (codesL l).findIdx? (begB A) = none := by
  have hg := getC_law (code_full h hw) A [] (fun m hm => by
    have : m = 0 := by simpa using hm
    subst this; simp [firstC, those0 (fun x q => (h x q).1)])
  have hbeg : ∀ i n, l[i]? = some n → begB A (codeB l i) = true → n ≤ A.length ∧ num (A.take n) = firstC l n + rank l i n ∧ rank l i n < (those l n).length ∧ (those l n)[rank l i n]? = some i := by
    intro i n hi hb
    have hr := those_rank hi
    have hrl : rank l i n < (those l n).length := by rcases Nat.lt_or_ge (rank l i n) (those l n).length with q | q; exact q; rw [List.getElem?_eq_none q] at hr; cases hr
    have hn := h n (List.mem_of_getElem? hi)
    have hc := code_le h hw hn.2
    simp only [begB, codeB_len hi, Bool.and_eq_true, decide_eq_true_eq, beq_iff_eq] at hb
    refine ⟨hb.1, ?_, hrl, hr⟩
    rw [hb.2, codeB_of hi, num_bitsN, Nat.mod_eq_of_lt (by omega)]
  simp only [List.length_nil, Nat.zero_add, List.nil_append] at hg
  have e0 : num ([] : List Bool) = 0 := rfl
  rw [e0] at hg
  cases hq : getC l 1 0 A with
  | ok p =>
    obtain ⟨s, m⟩ := p
    rw [hq] at hg
    obtain ⟨hm, k, hk, hnum, hmin⟩ := hg
    obtain ⟨hs, hk2⟩ := those_inj hk
    have hsl : s < l.length := by rcases Nat.lt_or_ge s l.length with q | q; exact q; rw [List.getElem?_eq_none q] at hs; cases hs
    refine ⟨?_, hs⟩
    rw [List.findIdx?_eq_some_iff_getElem]
    refine ⟨by simpa [codesL] using hsl, ?_, ?_⟩
    · have e : (codesL l)[s]'(by simpa [codesL] using hsl) = codeB l s := by simp [codesL]
      rw [e]
      simp only [begB, codeB_len hs, Bool.and_eq_true, decide_eq_true_eq, beq_iff_eq]
      refine ⟨hm, ?_⟩
      rw [codeB_of hs, ← hk2, ← hnum]
      have := bitsN_num (A.take m); rw [List.length_take, Nat.min_eq_left hm] at this; exact this.symm
    · intro j hj
      have hjl : j < l.length := by omega
      have e : (codesL l)[j]'(by simpa [codesL] using hjl) = codeB l j := by simp [codesL]
      rw [e]
      intro hb
      obtain ⟨n', hn'⟩ : ∃ n', l[j]? = some n' := ⟨_, List.getElem?_eq_getElem hjl⟩
      obtain ⟨b1, b2, b3, b4⟩ := hbeg j n' hn' hb
      rcases Nat.lt_trichotomy n' m with q | q | q
      · have := hmin n' q; omega
      · subst q
        have : rank l j n' = k := by omega
        rw [this, hk] at b4; cases b4; omega
      · have h1 := firstC_step l (m := m) (n := n' - 1) (by omega)
        rw [show n' - 1 + 1 = n' by omega] at h1
        have hkl : k < (those l m).length := by rcases Nat.lt_or_ge k (those l m).length with q2 | q2; exact q2; rw [List.getElem?_eq_none q2] at hk; cases hk
        have e2 : A.take n' = A.take m ++ (A.drop m).take (n' - m) := by rw [← List.take_add, show m + (n' - m) = n' by omega]
        have e3 : ((A.drop m).take (n' - m)).length = n' - m := by rw [List.length_take, List.length_drop]; omega
        have h3 := num_lt ((A.drop m).take (n' - m))
        rw [e2, num_append, e3, hnum] at b2
        rw [e3] at h3
        have h4 : (firstC l m + k + 1) * 2 ^ (n' - m) ≤ (firstC l m + (those l m).length) * 2 ^ (n' - m) := Nat.mul_le_mul_right _ (by omega)
        rw [Nat.add_mul] at h4; omega
  | error e =>
    rw [hq] at hg
    refine ⟨hg.1, ?_⟩
    rw [List.findIdx?_eq_none_iff]
    intro x hx
    obtain ⟨j, hj, rfl⟩ := List.mem_map.mp hx
    have hjl : j < l.length := by simpa using hj
    obtain ⟨n', hn'⟩ : ∃ n', l[j]? = some n' := ⟨_, List.getElem?_eq_getElem hjl⟩
    cases hb : begB A (codeB l j) with
    | false => rfl
    | true =>
      obtain ⟨b1, b2, b3, b4⟩ := hbeg j n' hn' hb
      have := hg.2 n' (by simpa using b1); omega
def incL : List Bool → List Bool × Bool
  | [] => ([], true)
  | b :: r => ((b != (incL r).2) :: (incL r).1, (incL r).2 && b)
theorem incL_len : ∀ l, (incL l).1.length = l.length
  | [] => rfl
  | b :: r => by simp [incL, incL_len r]
theorem incL_bits : ∀ (n v : Nat), incL (bitsN n v) = (bitsN n (v + 1), decide ((v + 1) % 2 ^ n = 0))
  | 0, v => by simp [bitsN, incL, Nat.mod_one]
  | n + 1, v => by
    rw [bitsN_cons, incL, incL_bits n v, bitsN_cons n (v + 1)]
    have hp := Nat.two_pow_pos n
    have hv := Nat.div_add_mod v (2 ^ n)
    have hr := Nat.mod_lt v hp
    have hpp : 2 ^ (n + 1) = 2 ^ n * 2 := Nat.pow_succ ..
    obtain ⟨p, hpe⟩ : ∃ p, p = 2 ^ n := ⟨_, rfl⟩
    obtain ⟨q, hq⟩ : ∃ q, q = v / 2 ^ n := ⟨_, rfl⟩
    obtain ⟨r, hre⟩ : ∃ r, r = v % 2 ^ n := ⟨_, rfl⟩
    rw [hpp, ← hpe, Nat.mod_mul]
    rw [← hpe] at hp hq hre hr hv
    rw [← hq] at hv ⊢
    rw [← hre] at hv hr
    by_cases hz : r + 1 = p
    · have e1 : v + 1 = p * (q + 1) := by rw [Nat.mul_add]; omega
      rw [e1, Nat.mul_div_cancel_left _ hp, Nat.mul_mod_right]
      rcases Nat.mod_two_eq_zero_or_one q with z | z
      · have : (q + 1) % 2 = 1 := by omega
        simp [z, this]; omega
      · have : (q + 1) % 2 = 0 := by omega
        simp [z, this]
    · have e1 : v + 1 = p * q + (r + 1) := by omega
      have e2 : (r + 1) % p = r + 1 := Nat.mod_eq_of_lt (by omega)
      rw [e1, Nat.mul_add_div hp, Nat.div_eq_of_lt (show r + 1 < p by omega), Nat.mul_add_mod, e2]
      simp
theorem bitsN_pad (n x : Nat) : ∀ k, bitsN (n + k) (x * 2 ^ k) = bitsN n x ++ List.replicate k false
  | 0 => by simp
  | k + 1 => by
    have e1 : x * 2 ^ (k + 1) / 2 = x * 2 ^ k := by rw [Nat.pow_succ, ← Nat.mul_assoc]; omega
    have e2 : x * 2 ^ (k + 1) % 2 = 0 := by rw [Nat.pow_succ, ← Nat.mul_assoc]; omega
    rw [show n + (k + 1) = (n + k) + 1 by omega, bitsN, e1, e2, bitsN_pad n x k, List.append_assoc, List.replicate_succ']; rfl
def nextL (L : List Bool) (n : Nat) : List Bool := (incL L).1 ++ List.replicate (n - L.length) false
theorem nextL_bits {n k v : Nat} (h : k ≤ n) : nextL (bitsN k v) n = bitsN n ((v + 1) * 2 ^ (n - k)) := by
  have := bitsN_pad k (v + 1) (n - k)
  rw [show k + (n - k) = n by omega] at this
  rw [nextL, incL_bits, bitsN_len, this]
inductive Steps {S : Type} (step : S → List Bool → Except Nat (S × Nat)) (fin : S → List Bool → Bool) (l : List Bool) : S → Nat → S → Nat → Prop where
  | refl (s : S) (n : Nat) : Steps step fin l s n s n
  | more {s s' t : S} {n k m : Nat} (h : fin s (l.drop n) = false) (q : step s (l.drop n) = .ok (s', k)) (r : Steps step fin l s' (n + k) t m) : Steps step fin l s n t m
def Last {S : Type} (step : S → List Bool → Except Nat (S × Nat)) (fin : S → List Bool → Bool) (l : List Bool) (s : S) (n : Nat) (t : S) (m : Nat) : Prop :=
  Steps step fin l s n t m ∧ (fin t (l.drop m) = true ∨ ∃ e, step t (l.drop m) = .error e)
section
variable {S : Type} {step : S → List Bool → Except Nat (S × Nat)} {fin : S → List Bool → Bool} {l : List Bool}
theorem Steps.trans {s t u : S} {n m k : Nat} (a : Steps step fin l s n t m) (b : Steps step fin l t m u k) : Steps step fin l s n u k := by
  induction a with
  | refl => exact b
  | more h q _ ih => exact .more h q (ih b)
theorem Steps.runs {s t : S} {n m : Nat} {r : Except Nat (S × Nat)} (a : Steps step fin l s n t m) (b : Runs step fin l t m r) : Runs step fin l s n r := by
  induction a with
  | refl => exact b
  | more h q _ ih => exact .more h q (ih b)
theorem Last.det {s t u : S} {n m k : Nat} (a : Last step fin l s n t m) (b : Last step fin l s n u k) : t = u ∧ m = k := by
  obtain ⟨a1, a2⟩ := a
  induction a1 with
  | refl s n =>
    obtain ⟨b1, b2⟩ := b
    cases b1 with
    | refl => exact ⟨rfl, rfl⟩
    | more h q r => rcases a2 with a2 | ⟨e, a2⟩; (rw [h] at a2; cases a2); (rw [q] at a2; cases a2)
  | more h q r ih =>
    obtain ⟨b1, b2⟩ := b
    cases b1 with
    | refl => rcases b2 with b2 | ⟨e, b2⟩; (rw [h] at b2; cases b2); (rw [q] at b2; cases b2)
    | more h' q' r' => rw [q] at q'; cases q'; exact ih ⟨r', b2⟩ a2
theorem Runs.last {s : S} {n : Nat} {r : Except Nat (S × Nat)} (a : Runs step fin l s n r) : ∃ t m, Last step fin l s n t m ∧ ((r = .ok (t, m) ∧ fin t (l.drop m) = true) ∨ ∃ e, r = .error e ∧ step t (l.drop m) = .error e) := by
  induction a with
  | stop h => exact ⟨_, _, ⟨.refl _ _, .inl h⟩, .inl ⟨rfl, h⟩⟩
  | fail h k => exact ⟨_, _, ⟨.refl _ _, .inr ⟨_, k⟩⟩, .inr ⟨_, rfl, k⟩⟩
  | more h q _ ih => obtain ⟨t, m, ⟨i1, i2⟩, i3⟩ := ih; exact ⟨t, m, ⟨.more h q i1, i2⟩, i3⟩
end
def coS (c : Co) (l : List Bool) : Except Nat (Co × Nat) := match c.step l with
  | .error e => .error e
  | .ok (c', _, n) => .ok (c', n)
def coF (c : Co) (_ : List Bool) : Bool := c.done
def blF (b : Bl) (_ : List Bool) : Bool := b.done
def places (d p : Nat) : List Nat := List.replicate d 0 ++ if 0 < p then [p] else []
def dec6 : List Nat → List Nat → List Nat × List Nat
  | [], o => ([], o)
  | p :: r, o => (o.getD p 0 :: (dec6 r (moved o p)).1, (dec6 r (moved o p)).2)
theorem dec6_app : ∀ (a b o : List Nat), dec6 (a ++ b) o = ((dec6 a o).1 ++ (dec6 b (dec6 a o).2).1, (dec6 b (dec6 a o).2).2)
  | [], b, o => by simp [dec6]
  | p :: a, b, o => by simp [dec6, dec6_app a b]
def putsL (z : Ze) : List Nat → Option (Ze × List Nat)
  | [] => some (z, [])
  | s :: r => match z.put s with
    | .error _ => none
    | .ok (z', d, p) => (putsL z' r).map fun q => (q.1, places d p ++ q.2)
theorem putsL_app (a b : List Nat) : ∀ z, putsL z (a ++ b) = (putsL z a).bind fun q => (putsL q.1 b).map fun q' => (q'.1, q.2 ++ q'.2) := by
  induction a with
  | nil => intro z; simp [putsL]
  | cons s a ih =>
    intro z
    simp only [List.cons_append, putsL]
    cases z.put s with
    | error e => rfl
    | ok y =>
      obtain ⟨z', d, p⟩ := y
      simp only [ih]
      cases putsL z' a with
      | none => rfl
      | some q => simp only [Option.bind_some, Option.map_some]; cases putsL q.1 b with
        | none => rfl
        | some q' => simp
theorem putsL_snoc (a : List Nat) (s : Nat) (z : Ze) : putsL z (a ++ [s]) = (putsL z a).bind fun q => match q.1.put s with
    | .error _ => none
    | .ok (z', d, p) => some (z', q.2 ++ places d p) := by
  rw [putsL_app]
  cases putsL z a with
  | none => rfl
  | some q =>
    simp only [Option.bind_some, putsL]
    cases q.1.put s with
    | error e => rfl
    | ok y => obtain ⟨z', d, p⟩ := y; simp
theorem coOut {L : List Bool} {c t : Co} {n m : Nat} (h : Steps coS coF L c n t m) : ∃ r, t.out = c.out ++ r := by
  induction h with
  | refl => exact ⟨[], by simp⟩
  | more h q _ ih =>
    obtain ⟨r, hr⟩ := ih
    simp only [coS] at q
    split at q
    · cases q
    · rename_i c' o k hs
      cases q
      have := (Co.step_ok hs).2
      cases o with
      | none => exact ⟨r, by rw [hr, this.2]⟩
      | some s => exact ⟨s :: r, by rw [hr, this.2]; simp⟩
def RunB (L : List Bool) (b : Bl) (n : Nat) (r : Except Nat (Bl × Nat)) : Prop := match b.fin with
  | .error e => r = .error e
  | .ok b1 => Runs Bl.step blF L b1 n r
theorem RunB.go {L : List Bool} {b b1 : Bl} {n k : Nat} {r : Except Nat (Bl × Nat)} (hd : b.done = false) (hg : b.go (L.drop n) = .ok (b1, k)) (h : RunB L b1 (n + k) r) : Runs Bl.step blF L b n r := by
  simp only [RunB] at h
  cases hf : b1.fin with
  | error e => rw [hf] at h; subst h; exact .fail hd (by simp only [Bl.step, hg, hf]; rfl)
  | ok b2 => rw [hf] at h; exact .more hd (show b.step (L.drop n) = .ok (b2, k) by simp only [Bl.step, hg, hf]; rfl) h
def drained (b : Bl) (x : Rw) : Bl := { b with last := b.last ++ (dec6 (places x.due x.place) x.list).1, row := some { x with due := 0, place := 0, list := (dec6 (places x.due x.place) x.list).2 } }
theorem drain {L : List Bool} {n : Nat} {r : Except Nat (Bl × Nat)} : ∀ (k : Nat) (b : Bl) (x : Rw), x.due + (if 0 < x.place then 1 else 0) = k → b.head = true → b.done = false → b.row = some x → RunB L (drained b x) n r → RunB L b n r := by
  intro k
  induction k with
  | zero =>
    intro b x hk h1 h2 h3 h
    have hd : x.due = 0 := by omega
    have hp : x.place = 0 := by rcases Nat.eq_zero_or_pos x.place with q | q; exact q; (rw [if_pos q] at hk; omega)
    have : drained b x = b := by
      obtain ⟨a1, a2, a3, a4, a5, a6, a7⟩ := b
      obtain ⟨y1, y2, y3, y4, y5⟩ := x
      simp only at hd hp h3; subst hd; subst hp; subst h3
      simp [drained, places, dec6]
    rw [this] at h; exact h
  | succ k ih =>
    intro b x hk h1 h2 h3 h
    have hw : x.waits = true := by
      simp only [Rw.waits, Bool.or_eq_true, decide_eq_true_eq]
      by_cases q : 0 < x.place
      · exact .inr q
      · rw [if_neg q] at hk; exact .inl (by omega)
    have hf : b.fin = .ok b := by simp only [Bl.fin, h3, hw, Bool.or_true, if_true]
    simp only [RunB, hf]
    refine RunB.go (b1 := { b with last := b.last ++ [x.list.getD x.at_ 0], row := some x.next }) (k := 0) h2 (by simp only [Bl.go, h1, h3, hw]; rfl) ?_
    refine ih _ x.next ?_ h1 h2 rfl ?_
    · by_cases q : 0 < x.due
      · have e : x.next = { x with due := x.due - 1, list := moved x.list 0 } := by simp only [Rw.next, if_pos q]
        rw [e]; dsimp only; omega
      · have e : x.next = { x with place := 0, list := moved x.list x.place } := by simp only [Rw.next, if_neg q]
        rw [e]; dsimp only; rw [if_neg (by omega)]; split at hk <;> omega
    · have : drained { b with last := b.last ++ [x.list.getD x.at_ 0], row := some x.next } x.next = drained b x := by
        obtain ⟨y1, y2, y3, y4, y5⟩ := x
        simp only [drained, Rw.at_, Rw.next]
        by_cases q : 0 < y4
        · obtain ⟨y, rfl⟩ : ∃ y, y4 = y + 1 := ⟨y4 - 1, by omega⟩
          simp [places, List.replicate_succ, dec6]
        · have : y4 = 0 := by omega
          subst this
          have hp : 0 < y5 := by simp only at hk; split at hk <;> omega
          simp [places, dec6, hp]
      rw [this]; exact h
def blAt (room sum from_ : Nat) (c : Co) (z : Ze) (list last : List Nat) : Bl := ⟨room, true, sum, from_, last, some ⟨c, z, list, 0, 0⟩, false⟩
theorem row_law {L : List Bool} {room sum from_ : Nat} {z0 : Ze} {s0 : List Nat} {c : Co} {n : Nat} {rc : Except Nat (Co × Nat)} (hr : Runs coS coF L c n rc) :
    ∀ (z : Ze) (ps : List Nat), putsL z0 c.out = some (z, ps) → ∃ r, RunB L (blAt room sum from_ c z (dec6 ps s0).2 (dec6 ps s0).1) n r ∧ ∃ c' m, Last coS coF L c n c' m ∧
      ((putsL z0 c'.out = none ∧ r = .error 25) ∨ (putsL z0 c'.out ≠ none ∧ ∃ e, rc = .error e ∧ r = .error e) ∨
        ∃ z' ps', rc = .ok (c', m) ∧ putsL z0 c'.out = some (z', ps') ∧ r = if (dec6 ps' s0).1.length ≤ from_ then .error 23 else .ok ({ blAt room sum from_ c' z' (dec6 ps' s0).2 (dec6 ps' s0).1 with done := true }, m)) := by
  induction hr with
  | @stop c n h =>
    intro z ps hz
    simp only [coF] at h
    refine ⟨_, ?_, c, n, ⟨.refl _ _, .inl h⟩, .inr (.inr ⟨z, ps, rfl, hz, rfl⟩)⟩
    by_cases q : (dec6 ps s0).1.length ≤ from_
    · have hf : (blAt room sum from_ c z (dec6 ps s0).2 (dec6 ps s0).1).fin = .error 23 := by
        simp only [Bl.fin, blAt, h, Rw.waits, Nat.lt_irrefl, decide_false, Bool.or_false, Bool.not_true, Bool.false_eq_true, if_false]; exact if_pos q
      simp only [RunB, hf]; rw [if_pos q]
    · have hf : (blAt room sum from_ c z (dec6 ps s0).2 (dec6 ps s0).1).fin = .ok { blAt room sum from_ c z (dec6 ps s0).2 (dec6 ps s0).1 with done := true } := by
        simp only [Bl.fin, blAt, h, Rw.waits, Nat.lt_irrefl, decide_false, Bool.or_false, Bool.not_true, Bool.false_eq_true, if_false]; exact if_neg q
      simp only [RunB, hf]; rw [if_neg q]; exact .stop rfl
  | @fail c n e h k =>
    intro z ps hz
    simp only [coF] at h
    refine ⟨.error e, ?_, c, n, ⟨.refl _ _, .inr ⟨e, k⟩⟩, .inr (.inl ⟨by rw [hz]; simp, e, rfl, rfl⟩)⟩
    have hf : (blAt room sum from_ c z (dec6 ps s0).2 (dec6 ps s0).1).fin = .ok (blAt room sum from_ c z (dec6 ps s0).2 (dec6 ps s0).1) := by simp only [Bl.fin, blAt, h, Bool.not_false, Bool.true_or, if_true]
    simp only [RunB, hf]
    have hs : c.step (L.drop n) = .error e := by
      simp only [coS] at k; split at k
      · cases k; assumption
      · cases k
    refine .fail J ?_
    simp only [Bl.step, Bl.go, blAt, Rw.waits, Nat.lt_irrefl, decide_false, Bool.or_false, Bool.not_true, Bool.false_eq_true, if_false, Rw.step, hs]; rfl
  | @more c c' n k rc h q m ih =>
    intro z ps hz
    simp only [coF] at h
    have hf : (blAt room sum from_ c z (dec6 ps s0).2 (dec6 ps s0).1).fin = .ok (blAt room sum from_ c z (dec6 ps s0).2 (dec6 ps s0).1) := by simp only [Bl.fin, blAt, h, Bool.not_false, Bool.true_or, if_true]
    have q0 := q
    simp only [coS] at q
    split at q
    · cases q
    · rename_i c1 o k1 hs
      cases q
      have hok := (Co.step_ok hs).2
      cases o with
      | none =>
        obtain ⟨r, i1, t, m', ⟨i2, i3⟩, i4⟩ := ih z ps (by rw [hok.2]; exact hz)
        refine ⟨r, ?_, t, m', ⟨.more h q0 i2, i3⟩, i4⟩
        simp only [RunB, hf]
        refine RunB.go (b1 := blAt room sum from_ c' z (dec6 ps s0).2 (dec6 ps s0).1) (k := k) rfl ?_ i1
        simp only [Bl.go, blAt, Rw.waits, Nat.lt_irrefl, decide_false, Bool.or_false, Bool.not_true, Bool.false_eq_true, if_false, Rw.step, hs]; rfl
      | some s =>
        cases hp : z.put s with
        | error e =>
          have hn : putsL z0 c'.out = none := by rw [hok.2, putsL_snoc, hz]; simp only [Option.bind_some, hp]
          obtain ⟨t, m', ⟨i2, i3⟩, _⟩ := m.last
          refine ⟨.error 25, ?_, t, m', ⟨.more h q0 i2, i3⟩, .inl ⟨?_, rfl⟩⟩
          · simp only [RunB, hf]
            refine .fail J ?_
            simp only [Bl.step, Bl.go, blAt, Rw.waits, Nat.lt_irrefl, decide_false, Bool.or_false, Bool.not_true, Bool.false_eq_true, if_false, Rw.step, hs, hp]; rfl
          · obtain ⟨w, hw⟩ := coOut i2
            rw [hw, putsL_app, hn]; rfl
        | ok y =>
          obtain ⟨z', d, p⟩ := y
          obtain ⟨r, i1, t, m', ⟨i2, i3⟩, i4⟩ := ih z' (ps ++ places d p) (by rw [hok.2, putsL_snoc, hz]; simp only [Option.bind_some, hp])
          refine ⟨r, ?_, t, m', ⟨.more h q0 i2, i3⟩, i4⟩
          simp only [RunB, hf]
          refine RunB.go (b1 := ⟨room, true, sum, from_, (dec6 ps s0).1, some ⟨c', z', (dec6 ps s0).2, d, p⟩, false⟩) (k := k) rfl ?_ (drain _ _ ⟨c', z', (dec6 ps s0).2, d, p⟩ rfl rfl rfl rfl ?_)
          · simp only [Bl.go, blAt, Rw.waits, Nat.lt_irrefl, decide_false, Bool.or_false, Bool.not_true, Bool.false_eq_true, if_false, Rw.step, hs, hp]; rfl
          · have e : drained ⟨room, true, sum, from_, (dec6 ps s0).1, some ⟨c', z', (dec6 ps s0).2, d, p⟩, false⟩ ⟨c', z', (dec6 ps s0).2, d, p⟩ = blAt room sum from_ c' z' (dec6 (ps ++ places d p) s0).2 (dec6 (ps ++ places d p) s0).1 := by
              simp only [drained, blAt, dec6_app]
            rw [e]; exact i1
abbrev RunW (ALL : List Bool) (u : Un) (out : List Nat) (n : Nat) (r : Except Nat ((Un × List Nat) × Nat)) : Prop := Runs withStep withFin ALL (u, out) n r
theorem withFin_due {u : Un} {out : List Nat} {l : List Bool} (h : u.due ≠ 0) : withFin (u, out) l = false := by
  have : (u.due == 0) = false := by simpa using h
  simp [withFin, Un.mayEnd, this]
theorem blk_law {ALL : List Bool} {k m : Nat} {u : Un} {out : List Nat} {b0 : Bl} {r : Except Nat (Bl × Nat)} (hr : Runs Bl.step blF (ALL.drop k) b0 m r) (hu : u.due = 2) : b0.done = false →
    (∀ e, r = .error e → RunW ALL { u with block := some b0 } out (k + m) (.error (if e = 3 then 24 else e))) ∧
    (∀ b n, r = .ok (b, n) → ∀ rr, (match openR b.last b.from_ b.sum with
      | .error e => rr = .error e
      | .ok t => RunW ALL { u with block := none, last := b.last, origin := b.from_, gsum := b.sum, total := crcCom u.total b.sum, due := 1 } (out ++ t) (k + n) rr) → RunW ALL { u with block := some b0 } out (k + m) rr) := by
  have hf : ∀ b l, withFin ({ u with block := some b }, out) l = false := fun b l => withFin_due (by dsimp only; omega)
  have hst : ∀ (b : Bl) (l : List Bool), Un.step { u with block := some b } l = (match b.step l with
    | .error e => .error e
    | .ok (b', n) => if !b'.done then .ok ({ u with block := some b' }, 0, n) else .ok ({ u with block := none, last := b'.last, origin := b'.from_, gsum := b'.sum, total := crcCom u.total b'.sum, due := 1 }, 1, n)) := by
    intro b l
    simp only [Un.step, hu, Un.body]; rfl
  have hdd : ∀ m, ALL.drop (k + m) = (ALL.drop k).drop m := fun m => (List.drop_drop ..).symm
  induction hr with
  | stop h => intro hd; simp only [blF] at h; rw [hd] at h; cases h
  | @fail s m e h k' =>
    intro hd
    refine ⟨fun e' he => ?_, fun b n he => by cases he⟩
    cases he
    refine .fail (hf _ _) ?_
    simp only [withStep, hst, hdd, k']
  | @more s b' m j r h q m' ih =>
    intro hd
    cases hb : b'.done with
    | false =>
      obtain ⟨i1, i2⟩ := ih hb
      simp only [← Nat.add_assoc] at i1 i2
      have hs : withStep ({ u with block := some s }, out) (ALL.drop (k + m)) = .ok (({ u with block := some b' }, out), j) := by
        simp only [withStep, hst, hdd, q, hb]; rfl
      exact ⟨fun e he => .more (hf _ _) hs (i1 e he), fun b n he rr hh => .more (hf _ _) hs (i2 b n he rr hh)⟩
    | true =>
      have hrr : r = .ok (b', m + j) := m'.det (.stop hb)
      subst hrr
      refine ⟨fun e he => (by cases he), fun b n he rr hh => ?_⟩
      cases he
      cases ho : openR b'.last b'.from_ b'.sum with
      | error e =>
        rw [ho] at hh; simp only at hh; subst hh
        refine .fail (hf _ _) ?_
        simp only [withStep, hst, hdd, q, hb, Bool.not_true, Bool.false_eq_true, if_false, if_true, ho]
      | ok t =>
        rw [ho] at hh
        simp only [← Nat.add_assoc] at hh
        refine .more (hf _ _) (k := j) (s' := ({ u with block := none, last := b'.last, origin := b'.from_, gsum := b'.sum, total := crcCom u.total b'.sum, due := 1 }, out ++ t)) ?_ hh
        simp only [withStep, hst, hdd, q, hb, Bool.not_true, Bool.false_eq_true, if_false, if_true, ho]
def begR (l : List Bool) : Nat → Nat → Nat
  | 0, _ => 0
  | f + 1, i => if l.length < 8 * i + 8 then 24 else
      if i < 3 then (if num ((l.drop (8 * i)).take 8) ≠ [66, 90, 104].getD i 0 then 20 else begR l f (i + 1))
      else if num ((l.drop (8 * i)).take 8) < 49 ∨ 57 < num ((l.drop (8 * i)).take 8) then 20 else begR l f (i + 1)
def begun (u : Un) (l : List Bool) : Un := { u with level := num ((l.drop 24).take 8) - 48, at_ := 0, total := 0, due := 1 }
theorem beg_law {ALL : List Bool} {k : Nat} {out : List Nat} : ∀ (f i : Nat) (u : Un), i + f = 4 → 0 < f → u.due = 0 → u.at_ = i → (i = 0 → u.ended = true → (ALL.drop k).length ≠ 0) →
    (∀ rr, begR (ALL.drop k) f i = 0 → RunW ALL (begun u (ALL.drop k)) out (k + 32) rr → RunW ALL u out (k + 8 * i) rr) ∧ (begR (ALL.drop k) f i ≠ 0 → RunW ALL u out (k + 8 * i) (.error (begR (ALL.drop k) f i))) := by
  intro f
  induction f with
  | zero => intro i u _ h; omega
  | succ f ih =>
    intro i u hi _ hd ha he
    have hdd : ALL.drop (k + 8 * i) = (ALL.drop k).drop (8 * i) := (List.drop_drop ..).symm
    have hln : ((ALL.drop k).drop (8 * i)).length = (ALL.drop k).length - 8 * i := List.length_drop
    have hf : withFin (u, out) (ALL.drop (k + 8 * i)) = false := by
      simp only [withFin, Un.mayEnd, hd, ha, hdd, hln]
      by_cases q : i = 0
      · subst q
        cases hu : u.ended with
        | false => rfl
        | true => have := he rfl hu; simp at this ⊢; omega
      · simp [q]
    have hst : u.step (ALL.drop (k + 8 * i)) = u.letter ((ALL.drop k).drop (8 * i)) := by simp only [Un.step, if_pos hd, hdd]
    simp only [begR]
    by_cases h1 : (ALL.drop k).length < 8 * i + 8
    · rw [if_pos h1]
      refine ⟨fun rr q => absurd q (by decide), fun _ => .fail hf ?_⟩
      simp only [withStep, hst, Un.letter, hln]; rw [if_pos (by omega)]; rfl
    · rw [if_neg h1]
      by_cases h3 : i < 3
      · rw [if_pos h3]
        by_cases hx : num (((ALL.drop k).drop (8 * i)).take 8) = [66, 90, 104].getD i 0
        · rw [if_neg (by simpa using hx)]
          have hs : withStep (u, out) (ALL.drop (k + 8 * i)) = .ok (({ u with at_ := i + 1 }, out), 8) := by
            simp only [withStep, hst, Un.letter, hln, ha]; rw [if_neg (by omega), if_pos h3, if_pos hx]; rfl
          obtain ⟨i1, i2⟩ := ih (i + 1) { u with at_ := i + 1 } (by omega) (by omega) hd rfl (fun q => by omega)
          rw [show k + 8 * (i + 1) = k + 8 * i + 8 by omega] at i1 i2
          exact ⟨fun rr q hh => .more hf hs (i1 rr q hh), fun q => .more hf hs (i2 q)⟩
        · rw [if_pos hx]
          refine ⟨fun rr q => absurd q (by decide), fun _ => .fail hf ?_⟩
          simp only [withStep, hst, Un.letter, hln, ha]; rw [if_neg (by omega), if_pos h3, if_neg hx]; rfl
      · rw [if_neg h3]
        have e3 : i = 3 := by omega
        subst e3
        have hff : f = 0 := by omega
        subst hff
        by_cases hx : num (((ALL.drop k).drop (8 * 3)).take 8) < 49 ∨ 57 < num (((ALL.drop k).drop (8 * 3)).take 8)
        · rw [if_pos hx]
          refine ⟨fun rr q => absurd q (by decide), fun _ => .fail hf ?_⟩
          simp only [withStep, hst, Un.letter, hln, ha]; rw [if_neg (by omega), if_neg (by omega), if_pos hx]; rfl
        · rw [if_neg hx]
          refine ⟨fun rr _ hh => .more hf (k := 8) (s' := (begun u (ALL.drop k), out)) ?_ hh, fun q => absurd rfl q⟩
          simp only [withStep, hst, Un.letter, hln, ha]; rw [if_neg (by omega), if_neg (by omega), if_neg hx]; rfl
theorem num48_eq {l : List Bool} (h : 48 ≤ l.length) (v : Nat) (hv : v < 281474976710656) : num (l.take 48) = v ↔ l.take 48 = bitsN 48 v := by
  have e : (l.take 48).length = 48 := by rw [List.length_take]; omega
  constructor
  · intro q; have := bitsN_num (l.take 48); rw [e, q] at this; exact this.symm
  · intro q; rw [q, num_bitsN, Nat.mod_eq_of_lt hv]
section
variable {ALL : List Bool} {p : Nat} {u : Un} {out : List Nat} (hd : u.due = 1)
include hd
theorem magic_short (h : (ALL.drop p).length < 48) : RunW ALL u out p (.error 24) := by
  refine .fail (withFin_due oA) ?_
  simp only [withStep, Un.step, hd, Un.magic, if_true]; rw [if_neg (by decide), if_pos h]; rfl
theorem magic_bad (h : 48 ≤ (ALL.drop p).length) (h1 : (ALL.drop p).take 48 ≠ bitsN 48 54156738319193) (h2 : (ALL.drop p).take 48 ≠ bitsN 48 25779555029136) : RunW ALL u out p (.error 20) := by
  refine .fail (withFin_due oA) ?_
  simp only [withStep, Un.step, hd, Un.magic, if_true]
  rw [if_neg (by decide), if_neg (by omega), if_neg (fun q => h1 ((num48_eq h _ (by decide)).mp q)), if_neg (fun q => h2 ((num48_eq h _ (by decide)).mp q))]; rfl
theorem magic_block {rr : Except Nat ((Un × List Nat) × Nat)} (h : 48 ≤ (ALL.drop p).length) (h1 : (ALL.drop p).take 48 = bitsN 48 54156738319193) (k : RunW ALL { u with block := some (Bl.new (u.level * u.unit)), due := 2 } out (p + 48) rr) : RunW ALL u out p rr := by
  refine .more (withFin_due oA) ?_ k
  simp only [withStep, Un.step, hd, Un.magic, if_true]
  rw [if_neg (by decide), if_neg (by omega), if_pos ((num48_eq h _ (by decide)).mpr h1)]; rfl
theorem magic_end {rr : Except Nat ((Un × List Nat) × Nat)} (h : 48 ≤ (ALL.drop p).length) (h1 : (ALL.drop p).take 48 = bitsN 48 25779555029136)
    (k : (match Un.sumS { u with due := 3 } (ALL.drop (p + 48)) with
      | .error e => rr = .error (if e = 3 then 24 else e)
      | .ok (u', _, n) => RunW ALL u' out (p + 48 + n) rr)) : RunW ALL u out p rr := by
  have h0 : num ((ALL.drop p).take 48) ≠ 54156738319193 := by
    rw [(num48_eq h 25779555029136 (by decide)).mpr h1]; decide
  refine .more (withFin_due oA) (k := 48) (s' := ({ u with due := 3 }, out)) ?_ ?_
  · simp only [withStep, Un.step, hd, Un.magic, if_true]
    rw [if_neg (by decide), if_neg (by omega), if_neg h0, if_pos ((num48_eq h _ (by decide)).mpr h1)]; rfl
  · have hst : Un.step { u with due := 3 } (ALL.drop (p + 48)) = Un.sumS { u with due := 3 } (ALL.drop (p + 48)) := by
      simp only [Un.step]; rw [if_neg (by decide), if_neg (by decide), if_neg (by decide)]
    cases hs : Un.sumS { u with due := 3 } (ALL.drop (p + 48)) with
    | error e =>
      rw [hs] at k; simp only at k; subst k
      exact .fail (withFin_due (show (3 : Nat) ≠ 0 by decide)) (by simp only [withStep, hst, hs])
    | ok y =>
      obtain ⟨u', w, n⟩ := y
      rw [hs] at k
      refine .more (withFin_due (show (3 : Nat) ≠ 0 by decide)) (k := n) (s' := (u', out)) ?_ k
      have hw : w = 2 := by
        simp only [Un.sumS] at hs
        repeat' split at hs
        all_goals first | (cases hs; done) | (cases hs; rfl)
      simp only [withStep, hst, hs, hw]; rw [if_neg (by decide)]
end
theorem txt_eq : ∀ {a b : List Nat}, (∀ x ∈ a, x < 256) → (∀ x ∈ b, x < 256) → ((txt a).toList == (txt b).toList) = (a == b) := by
  have key : ∀ {a b : List Nat}, (∀ x ∈ a, x < 256) → (∀ x ∈ b, x < 256) → a.map UInt8.ofNat = b.map UInt8.ofNat → a = b := by
    intro a
    induction a with
    | nil => intro b _ _ h; cases b with
      | nil => rfl
      | cons y b => simp at h
    | cons x a ih =>
      intro b ha hb h
      cases b with
      | nil => simp at h
      | cons y b =>
        simp only [List.map_cons, List.cons.injEq] at h
        have hx := ha x (by simp)
        have hy := hb y (by simp)
        have e : x = y := by
          have := congrArg UInt8.toNat h.1
          simpa [UInt8.toNat_ofNat, Nat.mod_eq_of_lt hx, Nat.mod_eq_of_lt hy] using this
        rw [e, ih (fun z hz => ha z (by simp [hz])) (fun z hz => hb z (by simp [hz])) h.2]
  intro a b ha hb
  rw [Bool.eq_iff_iff]
  simp only [beq_iff_eq, Go.ByteArray.toList_eq]
  constructor
  · intro h; exact key ha hb (by simpa [txt] using h)
  · rintro rfl; rfl
theorem symsL {s : List Nat} (hA : Asc s) (h256 : ∀ x ∈ s, x < 256) : (List.range 256).filter s.contains = s := by
  have h : ∀ n, Asc ((List.range n).filter s.contains) := by
    intro n; induction n with
    | zero => trivial
    | succ n ih =>
      rw [List.range_succ, List.filter_append]
      refine ih.append ?_ (fun x hx y hy => ?_)
      · simp only [List.filter_cons, List.filter_nil]; split <;> simp [Asc]
      · simp at hx hy; omega
  exact (h 256).ext hA (fun x => by simp; exact fun q => h256 x q)
theorem dec6_len : ∀ {l o : List Nat}, (∀ x ∈ l, x < o.length) → (dec6 l o).1.length = l.length ∧ (dec6 l o).2.length = o.length
  | [], o, _ => ⟨rfl, rfl⟩
  | p :: l, o, h => by
    have hm : (moved o p).length = o.length := moved_len (h p (by simp))
    have := dec6_len (l := l) (o := moved o p) (fun x q => by rw [hm]; exact h x (by simp [q]))
    simp only [dec6, List.length_cons, this.1, this.2, hm]; exact ⟨trivial, trivial⟩
section
variable {ov : OvT} (H : OvH ov)
include H
theorem rThere_cr {h : Heap} {c b : Nat} {s : List Nat} (h256 : ∀ x ∈ s, x < 256) (hn : s.length ≤ 1000000) :
    CR Tryz.prog ov 187 [.string (txt s), nv b] ⟨h, c⟩ (fun w st => w = .bool (s.contains b) ∧ Same h c st) := by
  have hsz := txt_size s
  refine e_2 Tryz.func187 rfl (H _ (by decide)) Tryz.ntmps187 (by decide) ?_
  intro env U
  refine sg 1 J (qA U J (nK (rS (sg 1 J (qA U J (nK (rB ?_)))))))
  refine rL (fun m env' s' => ∃ j, m = s.length - j ∧ j ≤ s.length ∧ b ∉ s.take j ∧ Hd 18 [(0, .string (txt s)), (1, nv b), (5, nv j)] env' ∧ s'.heap = h ∧ c ≤ s'.ctr) s.length ?_ ?_
  · exact ⟨0, rfl, Nat.zero_le _, by simp, Ho U ⟨rfl, rfl, rfl, trivial⟩, rfl, by dsimp only; omega⟩
  rintro m _ ⟨h2, c2⟩ ⟨j, rfl, hj, hno, ⟨env, U, rfl⟩, he, hc2⟩
  dsimp only at he hc2
  subst he
  refine rS (sg 4 J (qM U J (qM U J (qK U J Tryz.underlying9 ?_))))
  rw [hsz]
  refine qB U J J J (nK ?_)
  refine rC U rfl (fun hjn => ?_) (fun hjn => ?_)
  · try simp only [dz, dy] at hjn
    obtain ⟨x, hx⟩ : ∃ x, s[j]? = some x := ⟨_, List.getElem?_eq_getElem (by omega)⟩
    have hx2 := h256 x (List.mem_of_getElem? hx)
    have hxn : (UInt8.ofNat x).toNat = x := by simp [UInt8.toNat_ofNat, Nat.mod_eq_of_lt hx2]
    refine rK (kN (rS (rB (sg 6 J (qM U J (qM U J (qJ U J J Tryz.underlying9 oA (txt_get hx) ?_)))))))
    simp only [hxn]
    refine qH U J Tryz.underlying5 Tryz.underlying3 wA ?_
    refine qM U J (qB U J J J (nK ?_))
    refine rC U rfl (fun heq => ?_) (fun heq => ?_)
    · try simp only [dz, dy] at heq
      refine sg 1 J (qA U J (nK (rR (k_bloR (kR (kR (k_bloR (kR (f_1 U J (.inl J) J ?_)))))))))
      have e : x = b := by omega
      subst e
      exact ⟨by rw [List.contains_iff_mem.mpr (List.mem_of_getElem? hx)], rfl, by dsimp only; omega⟩
    · try simp only [dz, dy] at heq
      refine rK (kO (kN (rg 3 J (qM U J (qP U J J wA ?_)))))
      refine qA U J (nK ?_)
      exact ⟨s.length - (j + 1), by omega, j + 1, rfl, by omega, by rw [List.take_add_one, hx]; simp only [Option.toList_some, List.mem_append, List.mem_singleton, not_or]; exact ⟨hno, by omega⟩, Ho U ⟨rfl, rfl, rfl, trivial⟩, rfl, by dsimp only; omega⟩
  · try simp only [dz, dy] at hjn
    refine r_exit (kE (kE (kB (kN (sg 1 J (qA U J (nK (rR (f_1 U J (.inl J) J ?_)))))))))
    have ej : j = s.length := by omega
    subst ej
    rw [List.take_length] at hno
    have e3 : s.contains b = false := by simpa using hno
    exact ⟨by rw [e3], rfl, by dsimp only; omega⟩
theorem rSymbols_cr {h : Heap} {c : Nat} {s : List Nat} (h256 : ∀ x ∈ s, x < 256) (hn : s.length ≤ 1000000) :
    CR Tryz.prog ov 165 [.string (txt s)] ⟨h, c⟩ (fun w st => w = .string (txt ((List.range 256).filter s.contains)) ∧ Keep [] h c st) := by
  refine e_1 Tryz.func165 rfl (H _ (by decide)) Tryz.ntmps165 (by decide) ?_
  intro env U
  refine sg 1 J (qA U J (nK (sg 1 J (qA U J (nK (rS (sg 1 J (qM U J (nK (rB ?_))))))))))
  refine rL (fun m env' s' => ∃ j, m = 256 - j ∧ j ≤ 256 ∧ Hd 19 [(0, .string (txt s)), (3, .string (txt ((List.range j).filter s.contains))), (5, nv j)] env' ∧ c ≤ s'.ctr ∧ Keep [] h c s') 256 ?_ ?_
  · exact ⟨0, rfl, by omega, Ho U ⟨rfl, rfl, rfl, trivial⟩, by dsimp only; omega, (Keep.refl (Nat.le_refl c)).up (by omega)⟩
  rintro m _ ⟨h2, c2⟩ ⟨j, rfl, hj, ⟨env, U, rfl⟩, hc2, hK⟩
  dsimp only at hc2
  refine sg 1 J (qB U J J J (nK (rS ?_)))
  refine rC U rfl (fun hj6 => ?_) (fun hj6 => ?_)
  · try simp only [dz, dy] at hj6
    have hfs : (List.range (j + 1)).filter s.contains = (List.range j).filter s.contains ++ (if s.contains j = true then [j] else []) := by rw [List.range_succ, List.filter_append]; simp only [List.filter_cons, List.filter_nil]
    have hfl : ((List.range j).filter s.contains).length ≤ j := Nat.le_trans (List.length_filter_le _ _) (by simp)
    refine rK (kN (rS (rB (sg 2 J (qM U J (qA U J (nK (sg 3 J (qM U J (qM U J (qC U J (CR.mono (rThere_cr H h256 hn) ?_))))))))))))
    rintro v ⟨hh1, cc1⟩ ⟨rfl, rfl, hk⟩
    try dsimp only at hk
    refine nK ?_
    refine rC U rfl (fun hin => ?_) (fun hin => ?_)
    · try simp only [dz, dy] at hin
      have hxn : (UInt8.ofNat j).toNat = j := by simp [UInt8.toNat_ofNat]; omega
      refine rg 7 J (qM U J (qM U J (qH U J Tryz.underlying3 Tryz.underlying5 (m := ((j : Nat) : Int)) (wrapU8 oA oA) ?_)))
      refine q1_ U J a102 J (qY U rfl Tryz.underlying102 Tryz.underlying9 Tryz.underlying5 (bs := [UInt8.ofNat j]) (.inr ⟨_, rfl, rfl, by simp only [List.map_cons, List.map_nil, hxn]; exact (T.get_set _ _ _ _).trans (if_pos rfl), by simp, by omega⟩) ?_)
      refine qB U rfl rfl (addS ((List.range j).filter s.contains) [j] (by simp only [List.length_cons, List.length_nil]; omega)) ?_
      refine qA U J (rN (kO (kN (rg 2 J (qP U J J wA ?_)))))
      refine qM U J (nK ?_)
      exact ⟨256 - (j + 1), by omega, j + 1, rfl, by omega, Ho U ⟨rfl, by rw [hfs, if_pos hin]; rfl, rfl, trivial⟩, by dsimp only; omega, (hK.set (.inl (by omega))).up (by omega)⟩
    · try simp only [dz, dy] at hin
      refine rK (kO (kN (rg 2 J (qP U J J wA ?_))))
      refine qM U J (nK ?_)
      exact ⟨256 - (j + 1), by omega, j + 1, rfl, by omega, Ho U ⟨rfl, by rw [hfs, if_neg (by rw [hin]; decide), List.append_nil]; rfl, rfl, trivial⟩, by dsimp only; omega, hK.up (by omega)⟩
  · try simp only [dz, dy] at hj6
    refine r_exit (kE (kE (kB (kN (sg 2 J (qM U J (qA U J (nK (rR (f_1 U J (.inl J) J ?_))))))))))
    have ej : j = 256 := by omega
    subst ej
    exact ⟨rfl, hK.up (by omega)⟩
theorem rIs_cr {h : Heap} {c : Nat} {s : List Nat} (hA : Asc s) (h256 : ∀ x ∈ s, x < 256) (hne : s ≠ []) (hn : s.length ≤ 256) :
    CR Tryz.prog ov 180 [.string (txt s)] ⟨h, c⟩ (fun w st => w = .bool true ∧ Keep [] h c st) := by
  have hsz := txt_size s
  have hpos : 0 < s.length := by cases s with | nil => exact absurd rfl hne | cons a s => simp
  refine e_1 Tryz.func180 rfl (H _ (by decide)) Tryz.ntmps180 (by decide) ?_
  intro env U
  refine sg 1 J (qA U J (nK (sg 10 J (qM U J (qK U J Tryz.underlying9 ?_)))))
  rw [hsz]
  refine qB U J J J (qM U J (qG U rfl rfl rfl (by simp; omega) ?_))
  refine qM U J (qG U rfl rfl rfl (by simp; omega) ?_)
  refine qC U J (CR.mono (rSymbols_cr H h256 oA) ?_)
  rintro v ⟨hh1, cc1⟩ ⟨rfl, hK⟩
  refine qG U rfl rfl rfl (by simp; omega) ?_
  refine qM U J (qG U rfl rfl rfl (by simp; omega) ?_)
  refine qB U J J J (qQ U rfl rfl rfl (if_pos (by simp; omega)) ?_)
  refine qA U J (nK (rR (f_1 U J (.inl J) J ?_)))
  refine ⟨?_, (hK.base oA).up (by have := hK.1; dsimp only at *; omega)⟩
  rw [symsL hA h256]; simp
theorem rDec6_cr {h : Heap} {c n cp : Nat} {l s : List Nat} {a : Option Addr} (hS : SlR 3 1 (l.map nv) a n cp h.get) (hc : ∀ z ∈ own a, z < c) (hA : Asc s) (h256 : ∀ x ∈ s, x < 256) (hne : s ≠ []) (hs : s.length ≤ 256) (hn : n ≤ 1000000) (hx : ∀ x ∈ l, x < s.length) :
    CR Tryz.prog ov 149 [.slice a n cp, .string (txt s)] ⟨h, c⟩ (fun v st => v = .tuple #[.string (txt (dec6 l s).1), nv 0] ∧ Keep [] h c st) := by
  have hln : l.length = n := by have := hS.len; simpa using this
  refine e_2 Tryz.func149 rfl (H _ (by decide)) Tryz.ntmps149 (by decide) ?_
  intro env U
  refine sg 2 J (qA U J (qA U J (nK (rS (sg 3 J (qM U J (qC U J (CR.mono (rIs_cr H hA h256 hne hs) ?_))))))))
  rintro v ⟨hh1, cc1⟩ ⟨rfl, hK⟩
  refine q_un U J J (nK (rF U rfl (by rfl) ?_))
  refine rK (kN (sg 1 J (qA U J (nK (sg 2 J (qM U J (qA U J (nK (rS (sg 3 J ?_))))))))))
  have hcc1 := hK.1
  dsimp only at hcc1
  refine qM U J (q_lenL U J Tryz.underlying171 (qM U J (nK (rB ?_))))
  refine rL (fun m env' s' => ∃ j, m = n - j ∧ j ≤ n ∧ Hd 40 [(14, .slice a n cp), (15, nv n), (16, nv j), (6, .string (txt (dec6 (l.take j) s).1)), (7, .string (txt (dec6 (l.take j) s).2))] env' ∧ s'.heap = hh1 ∧ cc1 ≤ s'.ctr) n ?_ ?_
  · exact ⟨0, rfl, Nat.zero_le _, Ho U ⟨rfl, rfl, rfl, rfl, rfl, trivial⟩, rfl, by dsimp only; omega⟩
  rintro m _ ⟨h2, c2⟩ ⟨j, rfl, hj, ⟨env, U, rfl⟩, he, hc2⟩
  dsimp only at he hc2
  subst he
  refine sg 1 J (qB U J J J (nK (rS ?_)))
  refine rC U rfl (fun hjn => ?_) (fun hjn => ?_)
  · try simp only [dz, dy] at hjn
    obtain ⟨x, hx1⟩ : ∃ x, l[j]? = some x := ⟨_, List.getElem?_eq_getElem (by omega)⟩
    have hx2 := hx x (List.mem_of_getElem? hx1)
    have hS2 := hS.move (g' := h2.get) (fun z hz => hK.2 z (by have := hc z hz; omega) (by simp))
    obtain ⟨mb, rfl, rfl, hmb⟩ := hS2.pos (by omega)
    have hdl := dec6_len (l := l.take j) (o := s) (fun x q => hx x (List.mem_of_mem_take q))
    rw [List.length_take] at hdl
    obtain ⟨o, ho⟩ : ∃ o, o = (dec6 (l.take j) s).2 := ⟨_, rfl⟩
    obtain ⟨u, hu⟩ : ∃ u, u = (dec6 (l.take j) s).1 := ⟨_, rfl⟩
    have hd1 : dec6 (l.take (j + 1)) s = (u ++ [o.getD x 0], moved o x) := by rw [List.take_add_one, hx1, dec6_app, ← ho, ← hu]; rfl
    rw [← ho, ← hu] at hdl
    rw [← ho, ← hu]
    have hsz := txt_size o
    obtain ⟨y, hy⟩ : ∃ y, o[x]? = some y := ⟨_, List.getElem?_eq_getElem (by omega)⟩
    have hyD : o.getD x 0 = y := by rw [List.getD_eq_getElem?_getD, hy]; rfl
    refine rK (kN (rS (rB (sg 3 J (qI U rfl rfl e171 ⟨by omega, by omega⟩ ?_)))))
    refine qL U rfl aA ((p3.1 _ _).trans (by simp [hx1])) (v := nv x) ?_
    have h1 : decide ((x : Int) < 0) = false := by simp
    refine qA U J (nK (rS (sg 8 J (qM U J (qB U J J J (qM U J (qG U J J J h1 (qM U J (qG U J J J h1 (qM U J (qG U J J J h1 (qK U J Tryz.underlying9 (qG U J J J h1 ?_)))))))))))))
    rw [hsz]
    refine qB U J J J (qQ U rfl rfl rfl (if_neg (by rw [h1]; decide)) ?_)
    refine nK (rF U J dA ?_)
    refine rK (kN (sg 8 J (qM U J (qM U J (qM U J (qM U J (qP U J J wA ?_)))))))
    refine qT (s := o) x (x + 1) U rfl Tryz.underlying9 rfl rfl ⟨by omega, by omega⟩ ?_
    simp only [take1 hy]
    refine qB U rfl rfl (addS u [y] (by simp only [List.length_cons, List.length_nil]; omega)) ?_
    refine qA U J (nK (rg 4 J (qM U J (qM U J (qC U J (CR.mono (rTouch_cr H (l := o) (i := x) oA oA) ?_))))))
    rintro v ⟨hh2, cc2⟩ ⟨rfl, rfl, hk⟩
    try dsimp only at hk
    refine qA U J (rN (kO (kN (rg 2 J (qP U J J wA ?_)))))
    refine qM U J (nK ?_)
    exact ⟨n - (j + 1), by omega, j + 1, rfl, by omega, Ho U ⟨rfl, rfl, rfl, by rw [hd1, hyD]; rfl, by rw [hd1]; rfl, trivial⟩, rfl, by dsimp only; omega⟩
  · try simp only [dz, dy] at hjn
    refine r_exit (kE (kE (kB (kN (sg 3 J (qM U J (qA U J (qA U J (nK (rR (f_2 U J (.inl J) J J ?_)))))))))))
    have ej : j = n := by omega
    subst ej
    rw [List.take_of_length_le (by omega)]
    exact ⟨rfl, (hK.base (by omega)).up (by omega)⟩
end
end Go.Proofs.YtegjkhgaoabfcaaGreat
