/- Part 17 (a part of the proof of UnstreamDecodes; no condition). -/
import Derived.Test.YtegjkhgaoabfcaaGreatWp
set_option linter.unusedSimpArgs false
set_option linter.unusedVariables false
set_option maxRecDepth 1000000
namespace Go.Proofs.YtegjkhgaoabfcaaGreat
open Go.AE
def runE : Nat → Un × List Nat → List Bool → Nat → Option (Except Nat ((Un × List Nat) × Nat))
  | 0, _, _, _ => none
  | f + 1, s, l, n => match withFin s (l.drop n) with
    | true => some (.ok (s, n))
    | false => match withStep s (l.drop n) with
      | .error e => some (.error e)
      | .ok (s', k) => runE f s' l (n + k)
theorem runE_ok : ∀ (f : Nat) {s : Un × List Nat} {l : List Bool} {n : Nat} {r : Except Nat ((Un × List Nat) × Nat)}, runE f s l n = some r → Runs withStep withFin l s n r
  | 0, _, _, _, _, h => by cases h
  | f + 1, s, l, n, r, h => by
    simp only [runE] at h
    cases hf : withFin s (l.drop n) with
    | true => rw [hf] at h; cases h; exact .stop hf
    | false =>
      rw [hf] at h; simp only at h
      cases hs : withStep s (l.drop n) with
      | error e => rw [hs] at h; cases h; exact .fail hf hs
      | ok y => obtain ⟨s', k⟩ := y; rw [hs] at h; exact .more hf hs (runE_ok f h)
def runIs (f unit : Nat) (l : List Bool) (e : Nat) (t : List Nat) : Bool := match runE f (Un.new unit, []) l 0 with
  | some (.ok (p, _)) => Nat.beq e 0 && decide (p.2 = t)
  | some (.error e') => Nat.beq e e' && t.isEmpty
  | none => false
def TellsW (unit : Nat) (l : List Bool) (e : Nat) (t : List Nat) : Prop := ∃ r, WithR unit l r ∧ match r with
  | .ok (p, _) => p.2 = t ∧ e = 0
  | .error e' => e = e' ∧ t = []
theorem runIs_ok {f unit e : Nat} {l : List Bool} {t : List Nat} (h : runIs f unit l e t = true) : TellsW unit l e t := by
  unfold runIs at h
  split at h
  · rename_i p n hr
    simp only [Bool.and_eq_true, decide_eq_true_eq] at h
    exact ⟨_, runE_ok f hr, h.2, Nat.eq_of_beq_eq_true h.1⟩
  · rename_i e' hr
    simp only [Bool.and_eq_true, List.isEmpty_iff] at h
    exact ⟨_, runE_ok f hr, Nat.eq_of_beq_eq_true h.1, h.2⟩
  · cases h
theorem eqE : ((txt []).toList == (⟨#[]⟩ : ByteArray).toList) = true := txt_eq (a := []) (b := []) (by simp) (by simp)
theorem eqAB : ((txt [97, 98]).toList == (⟨#[97, 98]⟩ : ByteArray).toList) = true := txt_eq (a := [97, 98]) (b := [97, 98]) (by decide) (by decide)
theorem none1 : TellsW 100000 (bitsL []) 24 [] := runIs_ok (f := 10) (by kernel_rfl)
theorem none2 : TellsW 100000 (bitsL [66, 90, 120]) 20 [] := runIs_ok (f := 10) (by kernel_rfl)
theorem none3 : TellsW 100000 (bitsL [66, 90, 104, 57, 23, 114, 69, 56, 80, 144, 0, 0, 0, 0]) 0 [] := runIs_ok (f := 20) (by kernel_rfl)
theorem none4 : TellsW 100000 (bitsL [66, 90, 104, 49, 49, 65, 89, 38, 83, 89, 233, 147, 253, 205, 0, 0, 0, 1, 0, 48, 0, 32, 0, 33, 0, 130, 177, 119, 36, 83, 133, 9, 14, 153, 63, 220, 208]) 0 [97, 98] := runIs_ok (f := 400) (by kernel_rfl)
section
variable {ov : OvT} (H : OvB ov)
include H
theorem withE_cr {h : Heap} {c e : Nat} {s : ByteArray} {t : List Nat} (hs : s.size ≤ 1000) (hT : TellsW 100000 (bitsL s.data.toList) e t) :
    CR Tryz.prog ov 12 [iv 100000, .string s] ⟨h, c⟩ (fun v st => v = .tuple #[.string (txt t), nv e] ∧ Keep [] h c st) := by
  refine (with_cr H hs).mono ?_
  rintro v st ⟨q, k⟩
  rw [if_pos (by omega)] at q
  obtain ⟨r, hr, hv⟩ := q
  obtain ⟨r', hr', h2⟩ := hT
  have e1 : r = r' := Runs.det hr hr'
  subst e1
  refine ⟨?_, k⟩
  cases r with
  | ok y => obtain ⟨p, n⟩ := y; rw [hv, h2.1, h2.2]
  | error e' => rw [hv, h2.1, h2.2]; rfl
theorem dec_cr {h : Heap} {c e : Nat} {s : ByteArray} {t : List Nat} (hs : s.size ≤ 1000) (hT : TellsW 100000 (bitsL s.data.toList) e t) :
    CR Tryz.prog ov 15 [.string s] ⟨h, c⟩ (fun v st => v = .tuple #[.string (txt t), nv e] ∧ Keep [] h c st) := by
  refine e_1 Tryz.func15 rfl (H.h _ (by decide)) Tryz.ntmps15 (by decide) ?_
  intro env hl
  refine sg 2 rfl (qA hl rfl (qA hl rfl (nK (sg 6 rfl (qM hl rfl (qC hl rfl (CR.mono (withE_cr H hs hT) ?_)))))))
  rintro v ⟨hh1, cc1⟩ ⟨rfl, hK⟩
  refine qE hl rfl rfl (qE hl rfl rfl (qA hl rfl (qA hl rfl (nK (rR (f_2 hl rfl (.inl rfl) rfl rfl ?_))))))
  exact ⟨rfl, (hK.base (by omega)).up (by have := hK.1; dsimp only at *; omega)⟩
theorem none_cr {h : Heap} {c : Nat} (h11 : ov 11 = none) (h33 : ∀ (h : Heap) (c : Nat), CR Tryz.prog ov 33 [nv 1, nv 100000, .string ⟨#[97, 98]⟩] ⟨h, c⟩ (fun v st => v = .string ⟨#[66, 90, 104, 49, 49, 65, 89, 38, 83, 89, 233, 147, 253, 205, 0, 0, 0, 1, 0, 48, 0, 32, 0, 33, 0, 130, 177, 119, 36, 83, 133, 9, 14, 153, 63, 220, 208]⟩ ∧ Keep [] h c st)) :
    CR Tryz.prog ov 11 [] ⟨h, c⟩ (fun v st => v = .bool true) := by
  refine e_0 Tryz.func11 rfl h11 Tryz.ntmps11 ?_
  intro env hl
  refine sg 1 rfl (qA hl rfl (nK (sg 6 rfl (qC hl rfl (CR.mono (dec_cr H (s := ⟨#[]⟩) (by decide) none1) ?_)))))
  rintro v ⟨hh1, cc1⟩ ⟨rfl, hK1⟩
  refine qM hl rfl (qE hl rfl rfl (qE hl rfl rfl (qA hl rfl (qA hl rfl (nK (sg 6 rfl (qC hl rfl (CR.mono (dec_cr H (s := ⟨#[66, 90, 120]⟩) (by decide) none2) ?_))))))))
  rintro v ⟨hh2, cc2⟩ ⟨rfl, hK2⟩
  refine qM hl rfl (qE hl rfl rfl (qE hl rfl rfl (qA hl rfl (qA hl rfl (nK (sg 6 rfl (qC hl rfl (CR.mono (dec_cr H (s := ⟨#[66, 90, 104, 57, 23, 114, 69, 56, 80, 144, 0, 0, 0, 0]⟩) (by decide) none3) ?_))))))))
  rintro v ⟨hh3, cc3⟩ ⟨rfl, hK3⟩
  refine qM hl rfl (qE hl rfl rfl (qE hl rfl rfl (qA hl rfl (qA hl rfl (nK (sg 7 rfl (qC hl rfl (CR.mono (h33 _ _) ?_))))))))
  rintro v ⟨hh4, cc4⟩ ⟨rfl, hK4⟩
  refine qC hl rfl (CR.mono (dec_cr H (s := ⟨#[66, 90, 104, 49, 49, 65, 89, 38, 83, 89, 233, 147, 253, 205, 0, 0, 0, 1, 0, 48, 0, 32, 0, 33, 0, 130, 177, 119, 36, 83, 133, 9, 14, 153, 63, 220, 208]⟩) (by decide) none4) ?_)
  rintro v ⟨hh5, cc5⟩ ⟨rfl, hK5⟩
  refine qM hl rfl (qE hl rfl rfl (qE hl rfl rfl (qA hl rfl (qA hl rfl (nK (sg 23 rfl (qM hl rfl (qB hl rfl rfl rfl (qM hl rfl (qG hl rfl rfl rfl rfl (qM hl rfl (qG hl rfl rfl rfl rfl (qB hl rfl rfl rfl (qQ hl rfl rfl rfl (if_pos rfl) (qM hl rfl (qG hl rfl rfl rfl rfl (qM hl rfl (qG hl rfl rfl rfl rfl (qB hl rfl rfl rfl (qQ hl rfl rfl rfl (if_pos rfl) (qM hl rfl ?_)))))))))))))))))))))
  refine qG hl rfl rfl rfl rfl (qM hl rfl (qG hl rfl rfl rfl rfl (qB hl rfl rfl rfl (qQ hl rfl rfl rfl (if_pos rfl) (qM hl rfl (qG hl rfl rfl rfl eqE (qM hl rfl (qG hl rfl rfl rfl eqE (qB hl rfl rfl rfl (qQ hl rfl rfl rfl (if_pos eqE) (qM hl rfl (qG hl rfl rfl rfl rfl (qM hl rfl (qG hl rfl rfl rfl rfl (qB hl rfl rfl rfl (qQ hl rfl rfl rfl (if_pos rfl) (qA hl rfl (nK (rR (f_1 hl rfl (.inl rfl) rfl ?_))))))))))))))))))))
  exact congrArg Value.bool eqAB
theorem withT_cr {h : Heap} {c n : Nat} {s : ByteArray} (hs : s.size ≤ 1000) (hn : 24 ≤ n ∧ n ≤ 100000) :
    CR Tryz.prog ov 12 [nv n, .string s] ⟨h, c⟩ (fun v st => ∃ (t : List Nat) (e : Nat), v = .tuple #[.string (txt t), nv e] ∧ TellsW n (bitsL s.data.toList) e t ∧ Keep [] h c st) := by
  refine (with_cr H (unit := (n : Int)) hs).mono ?_
  rintro v st ⟨q, k⟩
  rw [if_pos (by omega)] at q
  obtain ⟨r, hr, hv⟩ := q
  rw [Int.toNat_natCast] at hr
  cases r with
  | ok y => obtain ⟨p, m⟩ := y; exact ⟨p.2, 0, hv, ⟨_, hr, rfl, rfl⟩, k⟩
  | error e => exact ⟨[], e, hv, ⟨_, hr, rfl, rfl⟩, k⟩
theorem rWithT_cr {h : Heap} {c n : Nat} {s : ByteArray} (hs : s.size ≤ 1000) (hn : 24 ≤ n ∧ n ≤ 100000) :
    CR Tryz.prog ov 14 [nv n, .string s] ⟨h, c⟩ (fun v st => ∃ (t : List Nat) (e : Nat), v = .agg #[.string (txt t), nv e] ∧ TellsW n (bitsL s.data.toList) e t ∧ Keep [] h c st) := by
  refine (rWith_cr H.h hs hn).mono ?_
  rintro v st ⟨⟨r, hr, hv⟩, k⟩
  cases r with
  | ok y => obtain ⟨p, m⟩ := y; exact ⟨p.2, 0, hv, ⟨_, hr, rfl, rfl⟩, k⟩
  | error e => exact ⟨[], e, hv, ⟨_, hr, rfl, rfl⟩, k⟩
end
theorem TellsW.det {n e e' : Nat} {l : List Bool} {t t' : List Nat} (a : TellsW n l e t) (b : TellsW n l e' t') : e = e' ∧ t = t' := by
  obtain ⟨r, hr, q⟩ := a
  obtain ⟨r', hr', q'⟩ := b
  have e1 : r = r' := Runs.det hr hr'
  subst e1
  cases r with
  | ok y => obtain ⟨p, m⟩ := y; exact ⟨q.2.trans q'.2.symm, q.1.symm.trans q'.1⟩
  | error e => exact ⟨q.1.trans q'.1.symm, q.2.trans q'.2.symm⟩
theorem knows17_b : OvB (knows [e_s17]) := ⟨fun k hk => by
  simp only [List.mem_cons, List.not_mem_nil, or_false, not_or] at hk
  have e : Nat.beq 33 k = false := by
    cases hq : Nat.beq 33 k with
    | false => rfl
    | true => exact absurd (Nat.eq_of_beq_eq_true hq).symm hk.2.2.2.2.2.2
  unfold knows
  simp only [List.any_cons, List.any_nil, e_s17, e, Bool.or_self]
  exact theOv_b.h k (by simp only [List.mem_cons, List.not_mem_nil, or_false, not_or]; exact hk), rfl, rfl, rfl⟩
def e_none : KE := ⟨11, none, [], none, .bool true⟩
theorem k_none : KnownOk e_none := known_cr (tab := [e_s17]) (known_cons k_s17 known_nil) rfl rfl (none_cr knows17_b rfl (fun h c => CR_ov Tryz.func33 rfl (g := fun args s => [e_s17].findSome? fun e => match Nat.beq e.f 33 with
    | true => e.run args s
    | false => none) rfl (s' := ⟨h, c⟩) rfl ⟨rfl, Keep.refl (Nat.le_refl c)⟩))
theorem knowsN_b : OvB (knows [e_none]) := ⟨fun k hk => by
  simp only [List.mem_cons, List.not_mem_nil, or_false, not_or] at hk
  have e : Nat.beq 11 k = false := by
    cases hq : Nat.beq 11 k with
    | false => rfl
    | true => exact absurd (Nat.eq_of_beq_eq_true hq).symm hk.2.2.2.2.1
  unfold knows
  simp only [List.any_cons, List.any_nil, e_none, e, Bool.or_self]
  exact theOv_b.h k (by simp only [List.mem_cons, List.not_mem_nil, or_false, not_or]; exact hk), rfl, rfl, rfl⟩
theorem noneK_cr {h : Heap} {c : Nat} : CR Tryz.prog (knows [e_none]) 11 [] ⟨h, c⟩ (fun v st => v = .bool true ∧ Same h c st) :=
  CR_ov Tryz.func11 rfl (g := fun args s => [e_none].findSome? fun e => match Nat.beq e.f 11 with
    | true => e.run args s
    | false => none) rfl (s' := ⟨h, c⟩) rfl ⟨rfl, rfl, Nat.le_refl c⟩
end Go.Proofs.YtegjkhgaoabfcaaGreat
namespace Go.Proofs.YtegjkhgaoabfcaaGreat.CrUnstreamDecodes
open Go.AE
def ov := knows [e_none]
theorem ovOK : OvOK Tryz.prog ov := knows_ok (known_cons k_none known_nil)
theorem decT_cr {h : Heap} {c : Nat} {s : ByteArray} (hs : s.size ≤ 1000) :
    CR Tryz.prog ov 15 [.string s] ⟨h, c⟩ (fun v st => ∃ (t : List Nat) (e : Nat), v = .tuple #[.string (txt t), nv e] ∧ TellsW 100000 (bitsL s.data.toList) e t ∧ Keep [] h c st) := by
  have H : OvB ov := knowsN_b
  refine e_1 Tryz.func15 rfl (H.h _ (by decide)) Tryz.ntmps15 (by decide) ?_
  intro env hl
  refine sg 2 rfl (qA hl rfl (qA hl rfl (nK (sg 6 rfl (qM hl rfl (qC hl rfl (CR.mono (withT_cr H (n := 100000) (s := s) hs (by omega)) ?_)))))))
  rintro v ⟨hh1, cc1⟩ ⟨t, e, rfl, hT, hK⟩
  refine qE hl rfl rfl (qE hl rfl rfl (qA hl rfl (qA hl rfl (nK (rR (f_2 hl rfl (.inl rfl) rfl rfl ?_))))))
  exact ⟨t, e, rfl, hT, (hK.base (by omega)).up (by have := hK.1; dsimp only at *; omega)⟩
theorem cr (a0 : ByteArray) (w0 : a0.size ≤ 140737488351232) : CR Tryz.prog ov 4 [.string a0] ⟨.leaf, 0⟩ (fun v _ => v = .bool true) := by
  have H : OvB ov := knowsN_b
  have hnone := fun (h : Heap) (c : Nat) => noneK_cr (h := h) (c := c)
  refine e_1 Tryz.func4 rfl (H.h _ (by decide)) Tryz.ntmps4 (by decide) ?_
  intro env hl
  refine sg 1 rfl (qA hl rfl (nK (rS (sg 3 rfl (qM hl rfl (qK hl rfl Tryz.underlying9 (qB hl rfl rfl rfl (nK ?_))))))))
  refine rC hl rfl (fun hbig => ?_) (fun hbig => ?_)
  · try simp only [dz, dy] at hbig
    refine sg 2 rfl (qC hl rfl (CR.mono (hnone _ _) ?_))
    rintro v ⟨hh1, cc1⟩ ⟨rfl, rfl, hk⟩
    try dsimp only at hk
    refine qA hl rfl (nK (rR (kR (f_1 hl rfl (.inl rfl) rfl ?_))))
    rfl
  · try simp only [dz, dy] at hbig
    refine rK (kN (sg 7 rfl (qM hl rfl (qC hl rfl (CR.mono (decT_cr (s := a0) (by omega)) ?_)))))
    rintro v ⟨hh1, cc1⟩ ⟨t, e, rfl, hT, hK1⟩
    refine qM hl rfl (qE hl rfl rfl (qE hl rfl rfl (qA hl rfl (qA hl rfl (nK (sg 4 rfl (qM hl rfl (qC hl rfl (CR.mono (rWithT_cr H (n := 100000) (s := a0) (by omega) (by omega)) ?_)))))))))
    rintro v ⟨hh2, cc2⟩ ⟨t', e', rfl, hT', hK3⟩
    obtain ⟨rfl, rfl⟩ := hT.det hT'
    refine qZ i28 z28 rfl (qV hl rfl rfl (by first | assumption | (simp only [gs]; rfl) | (simp [gs]; try rfl)) p28 rfl rfl (by simp [Value.cells]) ?_)
    refine nK (sg 14 rfl (qM hl rfl (qF hl rfl fa28_1 (qL hl rfl (by first | assumption | (simp only [gs]; rfl) | (simp [gs]; try rfl)) ((p3.1 _ _).trans rfl) ?_))))
    refine qB hl rfl rfl rfl (qM hl rfl (qG hl rfl rfl rfl (by simp) ?_))
    refine qM hl rfl (qG hl rfl rfl rfl (by simp) ?_)
    refine qF hl rfl fa28_0 (qG hl rfl rfl rfl (by simp) ?_)
    refine qL hl rfl (by first | assumption | (simp only [gs]; rfl) | (simp [gs]; try rfl)) ((p9.1 _ _).trans rfl) ?_
    refine qG hl rfl rfl rfl (by simp) ?_
    refine qB hl rfl rfl rfl (qQ hl rfl rfl rfl (if_pos (by simp)) ?_)
    refine qM hl rfl (qG hl rfl rfl rfl (by simp) ?_)
    refine qC hl rfl (CR.mono (hnone _ _) ?_)
    rintro v ⟨hh4, cc4⟩ ⟨rfl, rfl, hk⟩
    try dsimp only at hk
    refine qQ hl rfl rfl rfl (if_pos (by simp)) ?_
    refine qA hl rfl (nK (rR (f_1 hl rfl (.inl rfl) rfl ?_)))
    rfl
end Go.Proofs.YtegjkhgaoabfcaaGreat.CrUnstreamDecodes
