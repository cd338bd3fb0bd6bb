/- Part 6 (a part of the proof of UnstreamSteps; no condition). -/
import Derived.Test.YtegjkhgaoabfcaaGreatWe
set_option linter.unusedSimpArgs false
set_option linter.unusedVariables false
set_option maxRecDepth 10000
namespace Go.Proofs.YtegjkhgaoabfcaaGreat
open Go.AE
def Co.sym (c : Co) (l : List Bool) : Except Nat (Co × Option Nat × Nat) :=
  if c.pk.picks.length ≤ c.out.length / 50 then .error 25
  else (getC (c.tabs.getD (c.pk.picks.getD (c.out.length / 50) 0) []) 1 0 l).map fun p => ({ c with out := c.out ++ [p.1], done := p.1 + 1 == c.size }, some p.1, p.2)
theorem Co.step_eq (c : Co) (l : List Bool) : c.step l = if !c.pk.done then (c.pk.step l).map fun p => ({ c with pk := p.1 }, none, p.2) else if c.tabs.length < c.pk.t then c.tab l else c.sym l := rfl
theorem getC_err (l : List Nat) {e : Nat} : ∀ (b : List Bool) (n v : Nat), getC l n v b = .error e → e = 3 ∨ e = 22 := by
  intro b
  induction b with
  | nil => intro n v h; simp only [getC] at h; split at h <;> (cases h; simp)
  | cons t b ih =>
    intro n v h; simp only [getC] at h
    split at h
    · cases h; simp
    · split at h
      · cases h
      · exact ih _ _ h
theorem getC_lt (l : List Nat) {s m : Nat} : ∀ (b : List Bool) (n v : Nat), firstC l n ≤ 2 * v → getC l n v b = .ok (s, m) → s < l.length ∧ n ≤ m ∧ m < n + b.length := by
  intro b
  induction b with
  | nil => intro n v _ h; simp only [getC] at h; split at h <;> cases h
  | cons t b ih =>
    intro n v hv h; simp only [getC] at h
    split at h
    · cases h
    · split at h
      · rename_i h1 h2
        have hk : 2 * v + t.toNat - firstC l n < (those l n).length := by omega
        simp only [Except.ok.injEq, Prod.mk.injEq] at h
        obtain ⟨rfl, rfl⟩ := h
        refine ⟨?_, Nat.le_refl _, by simp⟩
        rw [List.getD_eq_getElem?_getD, List.getElem?_eq_getElem hk]
        exact those_lt (List.getElem_mem hk)
      · rename_i h1 h2
        have := ih (n + 1) _ (by simp only [firstC]; omega) h
        simp only [List.length_cons]; omega
section
variable {ov : OvT} (H : OvH ov)
include H
theorem coSym_cr {h : Heap} {c0 b r dr at_ : Nat} {all : List Bool} {c : Co} {W : List Nat} (hC : CoR c b W h.get) (hR : BitR all dr at_ (h.get r)) (hc : r < c0 ∧ ∀ z ∈ W, z < c0) (hd : c.pk.done = true) (ht : ¬ c.tabs.length < c.pk.t) :
    CR Tryz.prog ov 244 [ptr b, ptr r] ⟨h, c0⟩ (fun v st => CoPost h c0 all dr at_ r b W c (-1) (c.sym (all.drop at_)) v st) := by
  have hrW := hC.r_ne hR
  have hC0 := hC
  obtain ⟨⟨g1, g2, g3, g4, g5, g6, g7, g8, g9⟩, pb, db, pa, ta, da, ca, tcp, ccp, cs, hb, hP, hT, hD, hS, hlen, hcd, hdis, hW⟩ := id hC
  obtain ⟨hPg, pcp, hpb, hpS⟩ := id hP
  have ht6 := hPg.2.2.1
  have hct := hPg.2.2.2.1
  have hpl := hPg.2.2.2.2.1
  have htk : c.took = c.pk.picks := by simp [Co.took, hd]
  rw [htk] at hb hT g8
  have hbW : b ∈ W := by rw [hW]; simp
  have hrb : r ≠ b := fun e => hrW (e ▸ hbW)
  have hcb := hc.2 b hbW
  simp only [Co.sym]
  by_cases hg : c.pk.picks.length ≤ c.out.length / 50
  · rw [if_pos hg]
    refine e_2 Tryz.func244 rfl (H _ (by decide)) Tryz.ntmps244 (by decide) ?_
    intro env U
    refine sg 2 J (qA U J (qA U J (nK (sg 6 J (qM U J (qN U J (qF U J fa214_5 (qL U J aA ((p3.1 _ _).trans J) ?_))))))))
    refine q_quo U rfl rfl ⟨by omega, by omega⟩ wA ?_
    refine qA U J (nK (rS (sg 7 J (qM U J (qM U J (qN U J (qF U J fa214_2 (qL U J aA ((p171.1 _ _).trans J) ?_))))))))
    refine q_lenL U J Tryz.underlying171 (qB U J J J (nK (rT U rfl (by simp; omega) ?_)))
    refine sg 2 J (qA U J (qA U J (nK (rR (kR (f_2 U J (.inl J) J J ?_))))))
    exact ⟨⟨rfl, by decide, fun q => absurd q (by decide), ⟨_, hb, rfl⟩, at_, Nat.le_refl _, hR⟩, Keep.refl (by omega)⟩
  · rw [if_neg hg]
    obtain ⟨pv, hpv⟩ : ∃ pv, c.pk.picks[c.out.length / 50]? = some pv := ⟨_, List.getElem?_eq_getElem (by omega)⟩
    have hpt : pv < c.pk.t := hPg.2.2.2.2.2.1 pv (List.mem_of_getElem? hpv)
    obtain ⟨x, hx⟩ : ∃ x, cs[pv]? = some x := ⟨_, List.getElem?_eq_getElem (by omega)⟩
    obtain ⟨l, hl2⟩ : ∃ l, c.tabs[pv]? = some l := ⟨_, List.getElem?_eq_getElem (by omega)⟩
    have hcx := hcd pv x l hx hl2
    have hlt := g7 l (List.mem_of_getElem? hl2)
    have e1 : c.tabs.getD (c.pk.picks.getD (c.out.length / 50) 0) [] = l := by simp [List.getD_eq_getElem?_getD, hpv, hl2]
    rw [e1]
    have hxW : ∀ z, z = x.1 ∨ z ∈ own x.2 → z ∈ W := by
      intro z hz; rw [hW]; simp only [List.mem_cons, List.mem_append, List.mem_flatMap]
      exact .inr (.inr (.inr (.inr ⟨x, List.mem_of_getElem? hx, hz⟩)))
    obtain ⟨mb, rfl, rfl, hmb⟩ := hT.pos (by omega)
    obtain ⟨mc, rfl, rfl, hmc⟩ := hS.pos (by omega)
    have hH := fun c' (q : c0 ≤ c') => cdGet_cr H (c := c') hcx hR ⟨by have := hc.2 x.1 (hxW _ (.inl rfl)); omega, by omega, fun z hz => by have := hc.2 z (hxW z (.inr hz)); omega⟩
    cases hs : getC l 1 0 (all.drop at_) with
    | error e =>
      have he := getC_err _ _ _ _ hs
      simp only [hs] at hH
      refine e_2 Tryz.func244 rfl (H _ (by decide)) Tryz.ntmps244 (by decide) ?_
      intro env U
      refine sg 2 J (qA U J (qA U J (nK (sg 6 J (qM U J (qN U J (qF U J fa214_5 (qL U J aA ((p3.1 _ _).trans J) ?_))))))))
      refine q_quo U rfl rfl ⟨by omega, by omega⟩ wA ?_
      refine qA U J (nK (rS (sg 7 J (qM U J (qM U J (qN U J (qF U J fa214_2 (qL U J aA ((p171.1 _ _).trans J) ?_))))))))
      refine q_lenL U J Tryz.underlying171 (qB U J J J (nK (rF U rfl (by simp; omega) ?_)))
      refine rK (kN (rS (rD [] (by decide +kernel) (by decide +kernel) (n := 20) rfl ?_)))
      refine qM U J (qN U J (qF U J fa214_4 (qL U J aA ((p212.1 _ _).trans J) ?_)))
      refine qM U J (qN U J (qF U J fa214_2 (qL U J aA ((p171.1 _ _).trans J) ?_)))
      refine qM U J (qI U rfl rfl e171 ⟨by omega, by omega⟩ ?_)
      refine qL U rfl aA ((p3.1 _ _).trans (by rw [show 0 + ((c.out.length : Int) / 50).toNat * 1 = c.out.length / 50 by omega]; simp [hpv])) (v := nv pv) ?_
      refine qI U rfl rfl e212 ⟨by omega, by omega⟩ ?_
      refine qL U rfl aA ((p323.1 _ _).trans (by rw [show 0 + (pv : Int).toNat * 1 = pv by omega]; simp [hx])) (v := ptr x.1) ?_
      refine qM U J (qC U J (CR.mono (hH _ oA) ?_))
      rintro v ⟨hh1, cc1⟩ ⟨⟨rfl, hR2⟩, hK⟩
      refine qM U J (qE U J J (qE U J J (qA U J (qA U J (ro_nild (kN (rS (sg 2 J (qM U J (qB U J J J (nK (rT U rfl (by simp; omega) ?_))))))))))))
      refine sg 3 J (qM U J (qA U J (qA U J (nK (rR (kR (f_2 U J (.inl J) J J ?_)))))))
      exact ⟨⟨rfl, by omega, fun q => ⟨hR2, hC0.move (fun z hz => hK.2 z (by have := hc.2 z hz; omega) (by simp; rintro rfl; exact hrW hz))⟩, ⟨_, (hK.2 b (by omega) (by simpa using hrb.symm)).trans hb, rfl⟩, at_, Nat.le_refl _, hR2⟩, ((hK.base (by omega)).weak (by simp)).up (by omega)⟩
    | ok y =>
      obtain ⟨s, n⟩ := y
      have hsl := getC_lt l _ 1 0 (by simp [firstC, those0 (fun x hx => (hcx.1 x hx).1)]) hs
      simp only [hs] at hH
      refine e_2 Tryz.func244 rfl (H _ (by decide)) Tryz.ntmps244 (by decide) ?_
      intro env U
      refine sg 2 J (qA U J (qA U J (nK (sg 6 J (qM U J (qN U J (qF U J fa214_5 (qL U rfl (by first | assumption | (simp only [gs, hb1]; rfl) | (simp [gs, hb1]; try rfl)) ((p3.1 _ _).trans rfl) ?_))))))))
      refine q_quo U rfl rfl ⟨by omega, by omega⟩ wA ?_
      refine qA U J (nK (rS (sg 7 J (qM U J (qM U J (qN U J (qF U J fa214_2 (qL U rfl (by first | assumption | (simp only [gs, hb1]; rfl) | (simp [gs, hb1]; try rfl)) ((p171.1 _ _).trans rfl) ?_))))))))
      refine q_lenL U J Tryz.underlying171 (qB U J J J (nK (rF U rfl (by simp; omega) ?_)))
      refine rK (kN (rS (rD [] (by decide +kernel) (by decide +kernel) (n := 20) rfl ?_)))
      refine qM U J (qN U J (qF U J fa214_4 (qL U rfl (by first | assumption | (simp only [gs, hb1]; rfl) | (simp [gs, hb1]; try rfl)) ((p212.1 _ _).trans rfl) ?_)))
      refine qM U J (qN U J (qF U J fa214_2 (qL U rfl (by first | assumption | (simp only [gs, hb1]; rfl) | (simp [gs, hb1]; try rfl)) ((p171.1 _ _).trans rfl) ?_)))
      refine qM U J (qI U rfl rfl e171 ⟨by omega, by omega⟩ ?_)
      refine qL U rfl (by first | assumption | (simp only [gs, hb1]; rfl) | (simp [gs, hb1]; try rfl)) ((p3.1 _ _).trans (by rw [show 0 + ((c.out.length : Int) / 50).toNat * 1 = c.out.length / 50 by omega]; simp [hpv])) (v := nv pv) ?_
      refine qI U rfl rfl e212 ⟨by omega, by omega⟩ ?_
      refine qL U rfl (by first | assumption | (simp only [gs, hb1]; rfl) | (simp [gs, hb1]; try rfl)) ((p323.1 _ _).trans (by rw [show 0 + (pv : Int).toNat * 1 = pv by omega]; simp [hx])) (v := ptr x.1) ?_
      refine qM U J (qC U J (CR.mono (hH _ oA) ?_))
      rintro v ⟨hh1, cc1⟩ ⟨⟨rfl, hR2⟩, hK⟩
      refine qM U J ?_
      have hb1 := (hK.2 b (by omega) (by simpa using hrb.symm)).trans hb
      refine qE U J J (qE U J J (qA U J (qA U J (ro_nild (kN (rS (sg 2 J (qM U J (qB U J J J (nK (rF U J dA ?_)))))))))))
      refine rK (kN (sg 8 J (qM U J (qN U J (qF U J fa214_5 (qL U rfl (by first | assumption | (simp only [gs, hb1]; rfl) | (simp [gs, hb1]; try rfl)) ((p3.1 _ _).trans rfl) ?_))))))
      refine qP U J J wA ?_
      refine qN U J (qF U J fa214_5 (qW U rfl rfl (by first | assumption | (simp only [gs, hb1]; rfl) | (simp [gs, hb1]; try rfl)) p3 rfl rfl (by first | decide | (simp; done) | (simp; omega)) ?_))
      refine nK (sg 11 J (qM U J (qM U J (qM U J (qN U J (qF U J fa214_0 (qL U rfl (by first | assumption | (simp only [gs, hb1]; rfl) | (simp [gs, hb1]; try rfl)) ((p3.1 _ _).trans rfl) ?_)))))))
      refine q_sub U J J wA ?_
      refine qB U J J J (qN U J (qF U J fa214_6 (qW U rfl rfl (by first | assumption | (simp only [gs, hb1]; rfl) | (simp [gs, hb1]; try rfl)) p4 rfl rfl (by first | decide | (simp; done) | (simp; omega)) ?_)))
      refine nK (sg 3 J (qM U J (qA U J (qA U J (nK (rR (f_2 U J (.inl J) J J ?_)))))))
      generalize hfh : T.set (T.set hh1 b _) b _ = hf
      have hf0 : ∀ z ∈ W, z ≠ b → hf.get z = h.get z := fun z hz h2 => by rw [← hfh, T.get_set, if_neg h2, T.get_set, if_neg h2]; exact hK.2 z (by have := hc.2 z hz; omega) (by simp; rintro rfl; exact hrW hz)
      have hW' : ∀ z, z = b ∨ z = pb ∨ z = db ∨ z ∈ own pa ∨ z ∈ own (some ⟨mb, 0, none⟩) ∨ z ∈ own da ∨ z ∈ own (some ⟨mc, 0, none⟩) ∨ (∃ x ∈ cs, z = x.1 ∨ z ∈ own x.2) → z ∈ W := by intro z hz; rw [hW]; simp only [List.mem_cons, List.mem_append, List.mem_flatMap, or_assoc]; exact hz
      have nk : ∀ z B, h.get z = some B → B.elem ≠ 214 → z ≠ b := fun z B q1 q2 => blk_ne q1 hb (by dsimp only; exact q2)
      obtain ⟨_, dcp, hdb, hdS⟩ := id hD
      refine ⟨⟨rfl, hR2.move ?_, W, ⟨⟨g1, g2, g3, g4, fun q => absurd (hd.symm.trans q) (by decide), g6, g7, ?_, ?_⟩, pb, db, pa, some ⟨mb, 0, none⟩, da, some ⟨mc, 0, none⟩, 1, 1, cs, ?_, hP.move ?_, ?_, hD.move ?_, hS.move ?_, hlen, ?_, hdis, hW⟩, fun z hz => .inl hz⟩, ?_⟩
      · rw [← hfh]; dsimp only; rw [T.get_set, if_neg hrb, T.get_set, if_neg hrb]
      · have e5 : ({ c with out := c.out ++ [s], done := s + 1 == c.size } : Co).took = c.pk.picks := by simp [Co.took, hd]
        rw [e5]; simp; omega
      · intro y hy; rcases List.mem_append.mp hy with q | q
        · exact g9 y q
        · simp only [List.mem_singleton] at q; subst q; dsimp only; omega
      · have e5 : ({ c with out := c.out ++ [s], done := s + 1 == c.size } : Co).took = c.pk.picks := by simp [Co.took, hd]
        have e6 : ((s : Int) == (c.size : Int) - 1) = (s + 1 == c.size) := by rw [Bool.eq_iff_iff]; simp; omega
        rw [← hfh, T.get_set, if_pos rfl, e5]; simp [e6]
      · intro z hz; rcases hz with rfl | hz
        · exact hf0 z (hW' z (by simp)) (nk z _ hpb (by dsimp only; decide))
        · obtain ⟨B, q1, q2⟩ := hpS.kind z hz; exact hf0 z (hW' z (by simp [hz])) (nk z B q1 (by rw [q2]; decide))
      · have e5 : ({ c with out := c.out ++ [s], done := s + 1 == c.size } : Co).took = c.pk.picks := by simp [Co.took, hd]
        rw [e5]; refine hT.move (fun z hz => ?_); obtain ⟨B, q1, q2⟩ := hT.kind z hz; exact hf0 z (hW' z (by simp [hz])) (nk z B q1 (by rw [q2]; decide))
      · intro z hz; rcases hz with rfl | hz
        · exact hf0 z (hW' z (by simp)) (nk z _ hdb (by dsimp only; decide))
        · obtain ⟨B, q1, q2⟩ := hdS.kind z hz; exact hf0 z (hW' z (by simp [hz])) (nk z B q1 (by rw [q2]; decide))
      · intro z hz; obtain ⟨B, q1, q2⟩ := hS.kind z hz; exact hf0 z (hW' z (by simp [hz])) (nk z B q1 (by rw [q2]; decide))
      · intro i y l' hy hl'
        have hcy := hcd i y l' hy hl'
        refine hcy.move (fun z hz => ?_)
        obtain ⟨_, _, _, _, _, _, _, _, q1, _, _, _, _, q2⟩ := hcy
        have hzW := hW' z (.inr (.inr (.inr (.inr (.inr (.inr (.inr ⟨y, List.mem_of_getElem? hy, hz⟩)))))))
        rcases hz with q3 | q3
        · subst q3; exact hf0 _ hzW (nk _ _ q1 (by dsimp only; decide))
        · obtain ⟨B, q4, q5⟩ := q2.kind z q3; exact hf0 z hzW (nk z B q4 (by rw [q5]; decide))
      · rw [← hfh]
        have k1 := (hK.base (c0 := c0) (by omega)).weak (W' := r :: W) (by simp)
        exact ((k1.set (nm := b) (.inr (by simp [hbW]))).set (nm := b) (.inr (by simp [hbW]))).up (by omega)
theorem coDone_cr {h : Heap} {c0 b : Nat} {c : Co} {W : List Nat} (hC : CoR c b W h.get) :
    CR Tryz.prog ov 228 [ptr b] ⟨h, c0⟩ (fun v st => v = .bool c.done ∧ Same h c0 st) := by
  obtain ⟨_, pb, db, pa, ta, da, ca, tcp, ccp, cs, hb, hP, hT, hD, hS, hlen, hcd, hdis, hW⟩ := id hC
  refine e_1 Tryz.func228 rfl (H _ (by decide)) Tryz.ntmps228 (by decide) ?_
  intro env U
  refine sg 1 J (qA U J (nK (sg 9 J (qM U J (qB U J J (nn165 _) (qM U J (qG U J J J J (qM U J (qG U J J J J (qN U J (qG U J J J J (qF U J fa214_6 (qG U J J J J (qL U J aA ((p4.1 _ _).trans J) ?_))))))))))))))
  refine qQ U J J J (if_pos J) (qA U J (nK (rR (f_1 U J (.inl J) J ?_))))
  exact ⟨rfl, rfl, by simp <;> omega⟩
omit H in
theorem Co.sym_err {c : Co} {l : List Bool} {e : Nat} (h : c.sym l = .error e) : e = 3 ∨ e = 22 ∨ e = 25 := by
  simp only [Co.sym] at h
  split at h
  · cases h; simp
  · cases hs : getC (c.tabs.getD (c.pk.picks.getD (c.out.length / 50) 0) []) 1 0 l with
    | ok y => rw [hs] at h; cases h
    | error e' => rw [hs] at h; cases h; have := getC_err _ _ _ _ hs; omega
theorem coStep_cr {h : Heap} {c0 b r dr at_ : Nat} {all : List Bool} {c : Co} {W : List Nat} (hC : CoR c b W h.get) (hR : BitR all dr at_ (h.get r)) (hc : r < c0 ∧ ∀ z ∈ W, z < c0) (hnd : c.done = false) :
    CR Tryz.prog ov 226 [ptr b, ptr r] ⟨h, c0⟩ (fun v st => CoPost h c0 all dr at_ r b W c 0 (c.step (all.drop at_)) v st) := by
  have hrW := hC.r_ne hR
  obtain ⟨_, pb, db, pa, ta, da, ca, tcp, ccp, cs, hb, hP, hT, hD, hS, hlen, hcd, hdis, hW⟩ := id hC
  have hbW : b ∈ W := by rw [hW]; simp
  have hrb : r ≠ b := fun e => hrW (e ▸ hbW)
  have hcb := hc.2 b hbW
  rw [hnd] at hb
  rw [Co.step_eq]
  by_cases hd : c.pk.done = true
  · simp only [hd, Bool.not_true, Bool.false_eq_true, if_false]
    by_cases hTab : c.tabs.length < c.pk.t
    · rw [if_pos hTab] -- hTab
      have hH := fun c' (q : c0 ≤ c') => coTable_cr H (c0 := c') hC hR ⟨by omega, fun z hz => by have := hc.2 z hz; omega⟩ hd hTab
      cases hs : c.tab (all.drop at_) with
      | error e =>
        simp only [hs, CoPost] at hH
        refine e_2 Tryz.func226 rfl (H _ (by decide)) Tryz.ntmps226 (by decide) ?_
        intro env U
        refine sg 2 J (qA U J (qA U J (nK (rS (rB (sg 13 J (qM U J (qB U J J (nq165 _) (qM U J (qG U J J J J (qM U J (qG U J J J J (qB U J J (nq36 _) (qQ U J J J (J) (qM U J (qG U J J J J (qM U J (qG U J J J J (qN U J (qG U J J J J ?_))))))))))))))))))))
        refine qF U J fa214_6 (qG U J J J J (qL U J gA ((p4.1 _ _).trans J) ?_))
        refine qQ U J J J (J) (qA U J (nK (rF U J dA ?_)))
        refine sg 6 J (qM U J (qN U J (qF U J fa214_7 (qL U J gA ((p23.1 _ _).trans J) ?_))))
        refine qB U J J J (qA U J (nK (rF U J dA ?_)))
        refine rK (kO (kN (sg 3 J (qM U J (q_makeFunc U J J (qA U J (nK (rS (rB (sg 7 J (qM U J (qN U J (qF U J fa214_1 (qL U J gA ((p210.1 _ _).trans J) ?_))))))))))))))
        refine qC U J (CR.mono (pkDone_cr H hP) ?_)
        rintro v ⟨hh1, cc1⟩ ⟨rfl, rfl, hk⟩
        try dsimp only at hk
        refine q_un U J J (qA U J (nK (rF U rfl (by simp [hd]) ?_)))
        refine rS (rD [(3, 10)] (by decide +kernel) (by decide +kernel) (n := 12) rfl ?_)
        refine qM U J (qN U J (qF U J fa214_4 (qL U J gA ((p212.1 _ _).trans J) ?_)))
        refine q_lenL U J Tryz.underlying212 (qM U J (qN U J (qF U J fa214_1 (qL U J gA ((p210.1 _ _).trans J) ?_))))
        refine qC U J (CR.mono (pkTables_cr H hP) ?_)
        rintro v ⟨hh2, cc2⟩ ⟨rfl, rfl, hk⟩
        try dsimp only at hk
        refine qB U J J J (qA U J ?_)
        refine ro_nilp ?_ ?_
        · exact all1 (pair_load U rfl rfl rfl rfl ((heapAt_old rfl (by omega)).trans hb) ((p212.1 _ _).trans rfl) rfl (same_slice _ _ _))
        refine kN (rT U rfl (by simp; omega) ?_)
        refine rg 3 J (qM U J (q_makeFunc U J J (qA U J (rN (kO (kN (sg 8 J (qM U J (qM U J (q_callV U J J (CR.mono (hH _ oA) ?_)))))))))))
        rintro v ⟨hh3, cc3⟩ ⟨⟨rfl, he0, hsh, ⟨B, hB, hBl⟩, k, hk3, hR2⟩, hK⟩
        refine qM U J (qE U J J (qE U J J (qA U J (qA U J (nK (rS (sg 2 J (qM U J (qB U J J J (nK (rF U rfl (by simp; omega) ?_)))))))))))
        refine rK (kN (rS (sg 2 J (qM U J (qB U J J J (nK ?_))))))
        refine rC U rfl (fun he => ?_) (fun he => ?_)
        · try simp only [dz, dy] at he
          refine rg 5 J (qM U J (qM U J (qN U J (qF U J fa214_7 (qW U J J gA p23 J J oA ?_)))))
          refine nK (sg 3 J (qM U J (qA U J (qA U J (nK (rR (f_2 U J (.inl J) J J ?_)))))))
          refine ⟨⟨rfl, he0, fun q => absurd q oA, ⟨_, (T.get_set _ _ _ _).trans (if_pos rfl), by simp [hBl]⟩, k, hk3, hR2.move (by dsimp only; rw [T.get_set, if_neg hrb])⟩, ((hK.base (c0 := c0) oA).set (nm := b) (.inr (by simp [hbW]))).up oA⟩
        · try simp only [dz, dy] at he
          refine rK (kN (sg 3 J (qM U J (qA U J (qA U J (nK (rR (f_2 U J (.inl J) J J ?_))))))))
          exact ⟨⟨rfl, he0, fun q => hsh q, ⟨B, hB, hBl⟩, k, hk3, hR2⟩, (hK.base (by omega)).up (by omega)⟩
      | ok y =>
        obtain ⟨c', so, n⟩ := y
        simp only [hs, CoPost] at hH
        refine e_2 Tryz.func226 rfl (H _ (by decide)) Tryz.ntmps226 (by decide) ?_
        intro env U
        refine sg 2 J (qA U J (qA U J (nK (rS (rB (sg 13 J (qM U J (qB U J J (nq165 _) (qM U J (qG U J J J J (qM U J (qG U J J J J (qB U J J (nq36 _) (qQ U J J J (J) (qM U J (qG U J J J J (qM U J (qG U J J J J (qN U J (qG U J J J J ?_))))))))))))))))))))
        refine qF U J fa214_6 (qG U J J J J (qL U J gA ((p4.1 _ _).trans J) ?_))
        refine qQ U J J J (J) (qA U J (nK (rF U J dA ?_)))
        refine sg 6 J (qM U J (qN U J (qF U J fa214_7 (qL U J gA ((p23.1 _ _).trans J) ?_))))
        refine qB U J J J (qA U J (nK (rF U J dA ?_)))
        refine rK (kO (kN (sg 3 J (qM U J (q_makeFunc U J J (qA U J (nK (rS (rB (sg 7 J (qM U J (qN U J (qF U J fa214_1 (qL U J gA ((p210.1 _ _).trans J) ?_))))))))))))))
        refine qC U J (CR.mono (pkDone_cr H hP) ?_)
        rintro v ⟨hh1, cc1⟩ ⟨rfl, rfl, hk⟩
        try dsimp only at hk
        refine q_un U J J (qA U J (nK (rF U rfl (by simp [hd]) ?_)))
        refine rS (rD [(3, 10)] (by decide +kernel) (by decide +kernel) (n := 12) rfl ?_)
        refine qM U J (qN U J (qF U J fa214_4 (qL U J gA ((p212.1 _ _).trans J) ?_)))
        refine q_lenL U J Tryz.underlying212 (qM U J (qN U J (qF U J fa214_1 (qL U J gA ((p210.1 _ _).trans J) ?_))))
        refine qC U J (CR.mono (pkTables_cr H hP) ?_)
        rintro v ⟨hh2, cc2⟩ ⟨rfl, rfl, hk⟩
        try dsimp only at hk
        refine qB U J J J (qA U J ?_)
        refine ro_nilp ?_ ?_
        · exact all1 (pair_load U rfl rfl rfl rfl ((heapAt_old rfl (by omega)).trans hb) ((p212.1 _ _).trans rfl) rfl (same_slice _ _ _))
        refine kN (rT U rfl (by simp; omega) ?_)
        refine rg 3 J (qM U J (q_makeFunc U J J (qA U J (rN (kO (kN (sg 8 J (qM U J (qM U J (q_callV U J J (CR.mono (hH _ oA) ?_)))))))))))
        rintro v ⟨hh3, cc3⟩ ⟨⟨rfl, hR2, W', hC2, hO2⟩, hK⟩
        refine qM U J (qE U J J (qE U J J (qA U J (qA U J (nK (rS (sg 2 J (qM U J (qB U J J J (nK (rT U J dA ?_)))))))))))
        refine sg 4 J (qM U J (qM U J (qA U J (qA U J (nK (rR (kR (f_2 U J (.inl J) J J ?_))))))))
        exact ⟨⟨rfl, hR2, W', hC2, fun z hz => (hO2 z hz).imp id (fun q => by dsimp only at *; omega)⟩, (hK.base (by omega)).up (by omega)⟩
    · rw [if_neg hTab]
      have hH := fun c' (q : c0 ≤ c') => coSym_cr H (c0 := c') hC hR ⟨by omega, fun z hz => by have := hc.2 z hz; omega⟩ hd hTab
      cases hs : c.sym (all.drop at_) with
      | error e =>
        simp only [hs, CoPost] at hH
        refine e_2 Tryz.func226 rfl (H _ (by decide)) Tryz.ntmps226 (by decide) ?_
        intro env U
        refine sg 2 J (qA U J (qA U J (nK (rS (rB (sg 13 J (qM U J (qB U J J (nq165 _) (qM U J (qG U J J J J (qM U J (qG U J J J J (qB U J J (nq36 _) (qQ U J J J (J) (qM U J (qG U J J J J (qM U J (qG U J J J J (qN U J (qG U J J J J ?_))))))))))))))))))))
        refine qF U J fa214_6 (qG U J J J J (qL U J gA ((p4.1 _ _).trans J) ?_))
        refine qQ U J J J (J) (qA U J (nK (rF U J dA ?_)))
        refine sg 6 J (qM U J (qN U J (qF U J fa214_7 (qL U J gA ((p23.1 _ _).trans J) ?_))))
        refine qB U J J J (qA U J (nK (rF U J dA ?_)))
        refine rK (kO (kN (sg 3 J (qM U J (q_makeFunc U J J (qA U J (nK (rS (rB (sg 7 J (qM U J (qN U J (qF U J fa214_1 (qL U J gA ((p210.1 _ _).trans J) ?_))))))))))))))
        refine qC U J (CR.mono (pkDone_cr H hP) ?_)
        rintro v ⟨hh1, cc1⟩ ⟨rfl, rfl, hk⟩
        try dsimp only at hk
        refine q_un U J J (qA U J (nK (rF U rfl (by simp [hd]) ?_)))
        refine rS (rD [(3, 10)] (by decide +kernel) (by decide +kernel) (n := 12) rfl ?_)
        refine qM U J (qN U J (qF U J fa214_4 (qL U J gA ((p212.1 _ _).trans J) ?_)))
        refine q_lenL U J Tryz.underlying212 (qM U J (qN U J (qF U J fa214_1 (qL U J gA ((p210.1 _ _).trans J) ?_))))
        refine qC U J (CR.mono (pkTables_cr H hP) ?_)
        rintro v ⟨hh2, cc2⟩ ⟨rfl, rfl, hk⟩
        try dsimp only at hk
        refine qB U J J J (qA U J ?_)
        refine ro_nilp ?_ ?_
        · exact all1 (pair_load U rfl rfl rfl rfl ((heapAt_old rfl (by omega)).trans hb) ((p212.1 _ _).trans rfl) rfl (same_slice _ _ _))
        refine kN (rF U rfl (by simp; omega) ?_)
        refine rK (kO (kN (sg 8 J (qM U J (qM U J (q_callV U J J (CR.mono (hH _ oA) ?_)))))))
        rintro v ⟨hh3, cc3⟩ ⟨⟨rfl, he0, hsh, ⟨B, hB, hBl⟩, k, hk3, hR2⟩, hK⟩
        refine qM U J (qE U J J (qE U J J (qA U J (qA U J (nK (rS (sg 2 J (qM U J (qB U J J J (nK (rF U rfl (by simp; omega) ?_)))))))))))
        refine rK (kN (rS (sg 2 J (qM U J (qB U J J J (nK ?_))))))
        refine rC U rfl (fun he => ?_) (fun he => ?_)
        · try simp only [dz, dy] at he
          refine rg 5 J (qM U J (qM U J (qN U J (qF U J fa214_7 (qW U J J gA p23 J J oA ?_)))))
          refine nK (sg 3 J (qM U J (qA U J (qA U J (nK (rR (f_2 U J (.inl J) J J ?_)))))))
          refine ⟨⟨rfl, he0, fun q => absurd q oA, ⟨_, (T.get_set _ _ _ _).trans (if_pos rfl), by simp [hBl]⟩, k, hk3, hR2.move (by dsimp only; rw [T.get_set, if_neg hrb])⟩, ((hK.base (c0 := c0) oA).set (nm := b) (.inr (by simp [hbW]))).up oA⟩
        · try simp only [dz, dy] at he
          refine rK (kN (sg 3 J (qM U J (qA U J (qA U J (nK (rR (f_2 U J (.inl J) J J ?_))))))))
          exact ⟨⟨rfl, he0, fun q => hsh q, ⟨B, hB, hBl⟩, k, hk3, hR2⟩, (hK.base (by omega)).up (by omega)⟩
      | ok y =>
        obtain ⟨c', so, n⟩ := y
        simp only [hs, CoPost] at hH
        refine e_2 Tryz.func226 rfl (H _ (by decide)) Tryz.ntmps226 (by decide) ?_
        intro env U
        refine sg 2 J (qA U J (qA U J (nK (rS (rB (sg 13 J (qM U J (qB U J J (nq165 _) (qM U J (qG U J J J J (qM U J (qG U J J J J (qB U J J (nq36 _) (qQ U J J J (J) (qM U J (qG U J J J J (qM U J (qG U J J J J (qN U J (qG U J J J J ?_))))))))))))))))))))
        refine qF U J fa214_6 (qG U J J J J (qL U J gA ((p4.1 _ _).trans J) ?_))
        refine qQ U J J J (J) (qA U J (nK (rF U J dA ?_)))
        refine sg 6 J (qM U J (qN U J (qF U J fa214_7 (qL U J gA ((p23.1 _ _).trans J) ?_))))
        refine qB U J J J (qA U J (nK (rF U J dA ?_)))
        refine rK (kO (kN (sg 3 J (qM U J (q_makeFunc U J J (qA U J (nK (rS (rB (sg 7 J (qM U J (qN U J (qF U J fa214_1 (qL U J gA ((p210.1 _ _).trans J) ?_))))))))))))))
        refine qC U J (CR.mono (pkDone_cr H hP) ?_)
        rintro v ⟨hh1, cc1⟩ ⟨rfl, rfl, hk⟩
        try dsimp only at hk
        refine q_un U J J (qA U J (nK (rF U rfl (by simp [hd]) ?_)))
        refine rS (rD [(3, 10)] (by decide +kernel) (by decide +kernel) (n := 12) rfl ?_)
        refine qM U J (qN U J (qF U J fa214_4 (qL U J gA ((p212.1 _ _).trans J) ?_)))
        refine q_lenL U J Tryz.underlying212 (qM U J (qN U J (qF U J fa214_1 (qL U J gA ((p210.1 _ _).trans J) ?_))))
        refine qC U J (CR.mono (pkTables_cr H hP) ?_)
        rintro v ⟨hh2, cc2⟩ ⟨rfl, rfl, hk⟩
        try dsimp only at hk
        refine qB U J J J (qA U J ?_)
        refine ro_nilp ?_ ?_
        · exact all1 (pair_load U rfl rfl rfl rfl ((heapAt_old rfl (by omega)).trans hb) ((p212.1 _ _).trans rfl) rfl (same_slice _ _ _))
        refine kN (rF U rfl (by simp; omega) ?_)
        refine rK (kO (kN (sg 8 J (qM U J (qM U J (q_callV U J J (CR.mono (hH _ oA) ?_)))))))
        rintro v ⟨hh3, cc3⟩ ⟨⟨rfl, hR2, W', hC2, hO2⟩, hK⟩
        refine qM U J (qE U J J (qE U J J (qA U J (qA U J (nK (rS (sg 2 J (qM U J (qB U J J J (nK (rT U J dA ?_)))))))))))
        refine sg 4 J (qM U J (qM U J (qA U J (qA U J (nK (rR (kR (f_2 U J (.inl J) J J ?_))))))))
        exact ⟨⟨rfl, hR2, W', hC2, fun z hz => (hO2 z hz).imp id (fun q => by dsimp only at *; omega)⟩, (hK.base (by omega)).up (by omega)⟩
  · have hd' : c.pk.done = false := by simpa using hd -- pkT
    simp only [hd', Bool.not_false, if_true]
    have hH := fun c' (q : c0 ≤ c') => coPick_cr H (c0 := c') hC hR ⟨by omega, fun z hz => by have := hc.2 z hz; omega⟩ hd'
    cases hs : (c.pk.step (all.drop at_)).map fun p => (({ c with pk := p.1 } : Co), (none : Option Nat), p.2) with
    | error e =>
      simp only [hs, CoPost] at hH
      refine e_2 Tryz.func226 rfl (H _ (by decide)) Tryz.ntmps226 (by decide) ?_
      intro env U
      refine sg 2 J (qA U J (qA U J (nK (rS (rB (sg 13 J (qM U J (qB U J J (nq165 _) (qM U J (qG U J J J J (qM U J (qG U J J J J (qB U J J (nq36 _) (qQ U J J J (J) (qM U J (qG U J J J J (qM U J (qG U J J J J (qN U J (qG U J J J J ?_))))))))))))))))))))
      refine qF U J fa214_6 (qG U J J J J (qL U J gA ((p4.1 _ _).trans J) ?_))
      refine qQ U J J J (J) (qA U J (nK (rF U J dA ?_)))
      refine sg 6 J (qM U J (qN U J (qF U J fa214_7 (qL U J gA ((p23.1 _ _).trans J) ?_))))
      refine qB U J J J (qA U J (nK (rF U J dA ?_)))
      refine rK (kO (kN (sg 3 J (qM U J (q_makeFunc U J J (qA U J (nK (rS (rB (sg 7 J (qM U J (qN U J (qF U J fa214_1 (qL U J gA ((p210.1 _ _).trans J) ?_))))))))))))))
      refine qC U J (CR.mono (pkDone_cr H hP) ?_)
      rintro v ⟨hh1, cc1⟩ ⟨rfl, rfl, hk⟩
      try dsimp only at hk
      refine q_un U J J (qA U J (nK (rT U rfl (by simp [hd]) ?_)))
      refine rg 3 J (qM U J (q_makeFunc U J J (qA U J (rN (kO (kN (sg 8 J (qM U J (qM U J (q_callV U J J (CR.mono (hH _ oA) ?_)))))))))))
      rintro v ⟨hh2, cc2⟩ ⟨⟨rfl, he0, hsh, ⟨B, hB, hBl⟩, k, hk3, hR2⟩, hK⟩
      refine qM U J (qE U J J (qE U J J (qA U J (qA U J (nK (rS (sg 2 J (qM U J (qB U J J J (nK (rF U rfl (by simp; omega) ?_)))))))))))
      refine rK (kN (rS (sg 2 J (qM U J (qB U J J J (nK ?_))))))
      refine rC U rfl (fun he => ?_) (fun he => ?_)
      · try simp only [dz, dy] at he
        refine rg 5 J (qM U J (qM U J (qN U J (qF U J fa214_7 (qW U J J gA p23 J J oA ?_)))))
        refine nK (sg 3 J (qM U J (qA U J (qA U J (nK (rR (f_2 U J (.inl J) J J ?_)))))))
        refine ⟨⟨rfl, he0, fun q => absurd q oA, ⟨_, (T.get_set _ _ _ _).trans (if_pos rfl), by simp [hBl]⟩, k, hk3, hR2.move (by dsimp only; rw [T.get_set, if_neg hrb])⟩, ((hK.base (c0 := c0) oA).set (nm := b) (.inr (by simp [hbW]))).up oA⟩
      · try simp only [dz, dy] at he
        refine rK (kN (sg 3 J (qM U J (qA U J (qA U J (nK (rR (f_2 U J (.inl J) J J ?_))))))))
        exact ⟨⟨rfl, he0, fun q => hsh q, ⟨B, hB, hBl⟩, k, hk3, hR2⟩, (hK.base (by omega)).up (by omega)⟩
    | ok y =>
      obtain ⟨c', so, n⟩ := y
      simp only [hs, CoPost] at hH
      refine e_2 Tryz.func226 rfl (H _ (by decide)) Tryz.ntmps226 (by decide) ?_
      intro env U
      refine sg 2 J (qA U J (qA U J (nK (rS (rB (sg 13 J (qM U J (qB U J J (nq165 _) (qM U J (qG U J J J J (qM U J (qG U J J J J (qB U J J (nq36 _) (qQ U J J J (J) (qM U J (qG U J J J J (qM U J (qG U J J J J (qN U J (qG U J J J J ?_))))))))))))))))))))
      refine qF U J fa214_6 (qG U J J J J (qL U J gA ((p4.1 _ _).trans J) ?_))
      refine qQ U J J J (J) (qA U J (nK (rF U J dA ?_)))
      refine sg 6 J (qM U J (qN U J (qF U J fa214_7 (qL U J gA ((p23.1 _ _).trans J) ?_))))
      refine qB U J J J (qA U J (nK (rF U J dA ?_)))
      refine rK (kO (kN (sg 3 J (qM U J (q_makeFunc U J J (qA U J (nK (rS (rB (sg 7 J (qM U J (qN U J (qF U J fa214_1 (qL U J gA ((p210.1 _ _).trans J) ?_))))))))))))))
      refine qC U J (CR.mono (pkDone_cr H hP) ?_)
      rintro v ⟨hh1, cc1⟩ ⟨rfl, rfl, hk⟩
      try dsimp only at hk
      refine q_un U J J (qA U J (nK (rT U rfl (by simp [hd]) ?_)))
      refine rg 3 J (qM U J (q_makeFunc U J J (qA U J (rN (kO (kN (sg 8 J (qM U J (qM U J (q_callV U J J (CR.mono (hH _ oA) ?_)))))))))))
      rintro v ⟨hh2, cc2⟩ ⟨⟨rfl, hR2, W', hC2, hO2⟩, hK⟩
      refine qM U J (qE U J J (qE U J J (qA U J (qA U J (nK (rS (sg 2 J (qM U J (qB U J J J (nK (rT U J dA ?_)))))))))))
      refine sg 4 J (qM U J (qM U J (qA U J (qA U J (nK (rR (kR (f_2 U J (.inl J) J J ?_))))))))
      exact ⟨⟨rfl, hR2, W', hC2, fun z hz => (hO2 z hz).imp id (fun q => by dsimp only at *; omega)⟩, (hK.base (by omega)).up (by omega)⟩
end
end Go.Proofs.YtegjkhgaoabfcaaGreat
namespace Go.AE
section
variable {P : Program} {ov : OvT} {ops : Array Oper} {c0 d n : Nat} {ty : TypeId} {pos : String} {after : Array Edge} {l : List Oper} {i : Nat} {env : Env} {w : List (Nat × Value)} {h : Heap} {c : Nat} {sn : List (Nat × Heap)} {md : Heap} {Q : RS → Prop}
theorem setCells_eq : ∀ (new cs : List Value) (off : Nat), off + new.length ≤ cs.length → setCells cs off new = cs.take off ++ new ++ cs.drop (off + new.length)
  | [], cs, off, _ => by simp [setCells]
  | v :: r, cs, off, h => by
    simp only [List.length_cons] at h
    rw [setCells, setCells_eq r _ _ (by rw [List.length_set]; omega)]
    apply List.ext_getElem?; intro j
    simp only [List.getElem?_append, List.length_append, List.length_take, List.length_set, List.length_cons, List.getElem?_take, List.getElem?_drop, List.getElem?_set, List.getElem?_cons]
    repeat' split
    all_goals first | omega | rfl | (congr 1; omega) | skip
    all_goals (rename_i h9; simp_all; try omega)
theorem q_copy {tx tyy e el sz nx cp m bx ox : Nat} {x y : Operand} {vy : Value} {cs0 cs new : List Value} (U : env.length = n) (hx : lkO n w x = some (.slice (some ⟨bx, ox, none⟩) nx cp)) (hy : lkO n w y = some vy) (ht : ESz P tx e sz)
    (hsrc : srcCells P (some tyy) h vy sz = some (m, new)) (hb : h.get bx = some ⟨cs0, el, sz⟩) (ho : ox + nx * sz ≤ cs0.length) (hr : setCells cs0 ox (new.take (min m nx * sz)) = cs)
    (k : RO P ov ops c0 l (i + 1) ⟨E env ((d, .int .i64 (min m nx : Nat)) :: w), ⟨h.set bx ⟨cs, el, sz⟩, c⟩, (i + 1, h.set bx ⟨cs, el, sz⟩) :: sn, md⟩ Q) :
    RO P ov ops c0 (⟨some d, .call ⟨.builtin .copy, #[x, y], #[tx, tyy]⟩, ty, pos, after, none⟩ :: l) i ⟨E env w, ⟨h, c⟩, sn, md⟩ Q := by
  obtain ⟨h1, inf, h2, h3⟩ := ht
  subst hr
  refine ro_wild rfl (fun q => ?_) k
  simp [evWild, evL U (show lkL n w [x, y] = some [_, _] by simp [lkL, hx, hy]; exact ⟨rfl, rfl⟩), evCopy, h1, h2, h3, hsrc, hb, ho]
theorem q_convSB {s t e : Nat} {x : Operand} {S : ByteArray} {inf : TypeInfo} (U : env.length = n) (hx : lkO n w x = some (.string S)) (hs : P.underlying s = some .string) (ht : P.underlying t = some (.slice e)) (he : P.underlying e = some (.int .u8)) (hi : P.info? e = some inf) (h1 : inf.size = 1) (hz : S.size ≤ 2147483648)
    (k : RO P ov ops c0 l (i + 1) ⟨E env ((d, .slice (some ⟨c0 + i, 0, none⟩) S.size 1) :: w), ⟨h.set (c0 + i) ⟨S.data.toList.map fun b => .int .u8 b.toNat, e, 1⟩, c⟩, sn, md.set (c0 + i) ⟨S.data.toList.map fun b => .int .u8 b.toNat, e, 1⟩⟩ Q) :
    RO P ov ops c0 (⟨some d, .convert s t x, ty, pos, after, none⟩ :: l) i ⟨E env w, ⟨h, c⟩, sn, md⟩ Q := q_new rfl (by simp [evLocal, evE U hx, evConv, hs, ht, he, hi, h1, hz]) k
end
end Go.AE
namespace Go.Proofs.YtegjkhgaoabfcaaGreat
open Go.AE
def Ze.good (z : Ze) : Prop := 1 ≤ z.n ∧ z.n ≤ 256 ∧ z.most ≤ 1099511627776 ∧ z.told + z.zeros ≤ z.most ∧ z.weight ≤ z.zeros + 1
def ZeR (z : Ze) (b : Nat) (g : Nat → Option Blk) : Prop := z.good ∧ g b = some ⟨[nv z.n, nv z.most, nv z.told, nv z.zeros, nv z.weight, .bool z.done], 322, 0⟩
def MtR (l : List Nat) (b : Nat) (a : Option Addr) (g : Nat → Option Blk) : Prop := (∀ x ∈ l, x < 256) ∧ 0 < l.length ∧ l.length ≤ 256 ∧ ∃ cp, g b = some ⟨[.slice a l.length cp], 305, 0⟩ ∧ SlR 5 1 (l.map bv) a l.length cp g
theorem MtR.move {l : List Nat} {b : Nat} {a : Option Addr} {g g' : Nat → Option Blk} (h : MtR l b a g) (hg : ∀ z, z = b ∨ z ∈ own a → g' z = g z) : MtR l b a g' := by
  obtain ⟨h0, h3, h4, cp, h1, h2⟩ := h
  exact ⟨h0, h3, h4, cp, (hg b (.inl rfl)).trans h1, h2.move (fun z hz => hg z (.inr hz))⟩
section
variable {ov : OvT} (H : OvH ov)
include H
theorem zeMay_cr {h : Heap} {c n : Nat} :
    CR Tryz.prog ov 258 [nv n] ⟨h, c⟩ (fun v st => v = .bool (1 ≤ n && n ≤ 256) ∧ Same h c st) := by
  refine e_1 Tryz.func258 rfl (H _ (by decide)) Tryz.ntmps258 (by decide) ?_
  intro env U
  refine sg 1 J (qA U J (nK (sg 7 J (qM U J (qB U J J J (qM U J ?_))))))
  refine q_case U (rfl : lk _ _ 5 = _) (fun hg => ?_) (fun hg => ?_)
  · have hg_ := hg
    try simp only [dz] at hg_
    refine qG U J J J hg (qM U J (qG U J J J hg (qB U J J J (qQ U J J J (if_pos hg) (qA U J (nK (rR (f_1 U J (.inl J) J ?_))))))))
    refine ⟨?_, rfl, by simp <;> omega⟩
    have q : 1 ≤ n := by omega
    simp [q]
    omega
  · have hg_ := hg
    try simp only [dz] at hg_
    refine qS U rfl rfl rfl rfl (by rw [hg]; decide) ?_
    refine qS U rfl rfl rfl rfl (by rw [hg]; decide) ?_
    refine qQ U rfl rfl rfl (if_neg (by rw [hg]; decide)) ?_
    refine qA U J (nK (rR (f_1 U J (.inl J) J ?_)))
    refine ⟨?_, rfl, by simp <;> omega⟩
    have q : ¬ 1 ≤ n := by omega
    simp [q]
theorem zeNew_cr {h : Heap} {c n most : Nat} (hn : 1 ≤ n ∧ n ≤ 256) (hm : most ≤ 1000000) :
    CR Tryz.prog ov 241 [nv n, nv most] ⟨h, c⟩ (fun v st => ∃ b, v = .tuple #[ptr b, nv 0] ∧ ZeR (Ze.new n most) b st.heap.get ∧ c ≤ b ∧ b < st.ctr ∧ Keep [] h c st) := by
  have h1 : (!(decide (1 ≤ n) && decide (n ≤ 256))) = false := by simp [hn.1, hn.2]
  have h2 : decide ((most : Int) < 0) = false := by simp
  refine e_2 Tryz.func241 rfl (H _ (by decide)) Tryz.ntmps241 (by decide) ?_
  intro env U
  refine sg 2 J (qA U J (qA U J (nK (rS (sg 11 J (qM U J (qC U J (CR.mono (zeMay_cr H) ?_))))))))
  rintro v ⟨hh1, cc1⟩ ⟨rfl, rfl, hk⟩
  try dsimp only at hk
  refine q_un U J J (qM U J (qG U J J J h1 (qM U J (qG U J J J h1 (qB U J J J (qQ U rfl rfl rfl (if_neg (by rw [h1]; decide)) ?_))))))
  refine qM U J (qG U J J J h2 (qM U J (qG U J J J h2 (qB U J J J (qQ U rfl rfl rfl (if_neg (by rw [h2]; decide)) ?_)))))
  refine nK (rF U J dA ?_)
  refine rK (kN (sg 6 J (qM U J (qM U J (qU U rfl i322 z322 rfl (by simp [Program.built, Instr.fill, Tryz.underlying322, Value.cells]; rfl) ?_)))))
  refine q_box U J (qA U J (qA U J (nK (rR (f_2 U J (.inl J) J J ?_)))))
  refine ⟨_, rfl, ⟨⟨hn.1, hn.2, by dsimp only [Ze.new]; omega, Nat.zero_le _, Nat.le_refl _⟩, ?_⟩, by omega, by dsimp only; omega, ((Keep.refl (Nat.le_refl c)).set (.inl oA)).up oA⟩
  dsimp only; rw [T.get_set, if_pos rfl]; rfl
theorem zeCount_cr {h : Heap} {c b : Nat} {z : Ze} (hP : ZeR z b h.get) :
    CR Tryz.prog ov 267 [ptr b] ⟨h, c⟩ (fun v st => v = nv (z.told + z.zeros) ∧ Same h c st) := by
  obtain ⟨⟨g1, g2, g3, g4, g5⟩, hb⟩ := hP
  refine e_1 Tryz.func267 rfl (H _ (by decide)) Tryz.ntmps267 (by decide) ?_
  intro env U
  refine sg 1 J (qA U J (nK (rS (sg 2 J (qM U J (qB U J J (nq166 _) (nK (rF U J dA ?_))))))))
  refine rK (kN (rS (rD [] (by decide +kernel) (by decide +kernel) (n := 10) rfl ?_)))
  refine qM U J (qN U J (qF U J fa322_2 (qL U J aA ((p3.1 _ _).trans J) ?_)))
  refine qM U J (qN U J (qF U J fa322_3 (qL U J aA ((p3.1 _ _).trans J) ?_)))
  refine qP U J J wA ?_
  refine qA U J (ro_nild (kN (rR (f_1 U J (.inl J) J ?_))))
  exact ⟨by simp, rfl, by simp <;> omega⟩
theorem zeMore_cr {h : Heap} {c b s : Nat} {z : Ze} (hP : ZeR z b h.get) (hc : b < c) (hs : s < 2) :
    CR Tryz.prog ov 266 [ptr b, nv s] ⟨h, c⟩ (fun v st => (if z.most < z.told + z.zeros + z.weight * (s + 1) then v = nv 2 else v = nv 0 ∧ ZeR { z with zeros := z.zeros + z.weight * (s + 1), weight := 2 * z.weight } b st.heap.get) ∧ Keep [b] h c st) := by
  obtain ⟨⟨g1, g2, g3, g4, g5⟩, hb⟩ := id hP
  have hw : z.weight * (s + 1) = if s = 0 then z.weight else 2 * z.weight := by rcases (by omega : s = 0 ∨ s = 1) with q | q <;> subst q <;> simp; omega
  have hw2 : z.weight * 2 ^ s = z.weight * (s + 1) := by rcases (by omega : s = 0 ∨ s = 1) with q | q <;> subst q <;> simp
  have hle : z.weight * (s + 1) ≤ 2 * z.weight := by rw [hw]; split <;> omega
  have hge : z.weight ≤ z.weight * (s + 1) := by rw [hw]; split <;> omega
  obtain ⟨p, hp⟩ : ∃ p, p = z.weight * (s + 1) := ⟨_, rfl⟩
  rw [← hp] at hw2 hle hge
  have hsh : ((z.weight : Nat) : Int) * 2 ^ s = ((p : Nat) : Int) := by rw [← hw2]; simp
  rw [← hp]
  refine e_2 Tryz.func266 rfl (H _ (by decide)) Tryz.ntmps266 (by decide) ?_
  intro env U
  refine sg 1 J (qA U J (nK (sg 7 J (qM U J (qN U J (qF U J fa322_4 (qL U J gA ((p3.1 _ _).trans J) ?_)))))))
  refine qM U J (qB U rfl rfl (by rw [shlI s .i64 oA (by rw [hsh]; omega), hsh]) ?_)
  refine qA U J (nK (rS (rS (rD [(4, 7)] (by decide +kernel) (by decide +kernel) (n := 9) rfl ?_))))
  refine qM U J (qM U J (qN U J (qF U J fa322_1 (qL U J gA ((p3.1 _ _).trans J) ?_))))
  refine qM U J (qC U J (CR.mono (zeCount_cr H hP) ?_))
  rintro v ⟨hh1, cc1⟩ ⟨rfl, rfl, hk⟩
  try dsimp only at hk
  refine q_sub U J J wA ?_
  refine qB U J J J ?_
  refine ro_nilp ?_ ?_
  · exact all1 (pair_load U rfl rfl rfl rfl ((heapAt_old rfl (by omega)).trans hb) ((p3.1 _ _).trans rfl) rfl (same_int _ _))
  refine kN ?_
  refine rC U rfl (fun hlt => ?_) (fun hlt => ?_)
  · try simp only [dz, dy] at hlt
    refine sg 1 J (qA U J (nK (rR (kR (f_1 U J (.inl J) J ?_)))))
    rw [if_pos (by omega)]; exact ⟨rfl, Keep.refl (by omega)⟩
  · try simp only [dz, dy] at hlt
    refine rK (kN (sg 9 J (qM U J (qN U J (qF U J fa322_3 (qL U J gA ((p3.1 _ _).trans J) ?_))))))
    refine qM U J (qP U J J wA ?_)
    refine qN U J (qF U J fa322_3 (qW U rfl rfl gA p3 rfl rfl (by first | decide | (simp; done) | (simp; omega)) ?_))
    refine nK (sg 8 J (qM U J (qN U J (qF U J fa322_4 (qL U J gA ((p3.1 _ _).trans J) ?_)))))
    refine q_mul U J J wA ?_
    refine qN U J (qF U J fa322_4 (qW U rfl rfl gA p3 rfl rfl (by first | decide | (simp; done) | (simp; omega)) ?_))
    refine nK (sg 1 J (qA U J (nK (rR (f_1 U J (.inl J) J ?_)))))
    rw [if_neg (by omega)]
    refine ⟨⟨rfl, ⟨g1, g2, g3, by dsimp only; omega, by dsimp only; omega⟩, ?_⟩, (((Keep.refl (Nat.le_refl c)).set (nm := b) (.inr (by simp))).set (nm := b) (.inr (by simp))).up oA⟩
    dsimp only; rw [T.get_set, if_pos rfl]
    have e1 : ((z.zeros : Nat) : Int) + ((p : Nat) : Int) = ((z.zeros + p : Nat) : Int) := by omega
    have e2 : ((z.weight : Nat) : Int) * 2 = ((2 * z.weight : Nat) : Int) := by omega
    simp only [e1, e2]; rfl
theorem zePut_cr {h : Heap} {c b s : Nat} {z : Ze} (hP : ZeR z b h.get) (hc : b < c) (hs : s ≤ z.n + 1) (hd : z.done = false) :
    CR Tryz.prog ov 249 [ptr b, nv s] ⟨h, c⟩ (fun v st => (match z.put s with
      | .ok (z', k, p) => v = .tuple #[nv k, iv (if p = 0 then -1 else (p : Int)), nv 0] ∧ ZeR z' b st.heap.get
      | .error e => v = .tuple #[nv 0, nv 0, nv 2]) ∧ Keep [b] h c st) := by
  obtain ⟨⟨g1, g2, g3, g4, g5⟩, hb⟩ := id hP
  rw [hd] at hb
  have h1 : decide ((s : Int) < 0) = false := by simp
  by_cases hs2 : s < 2
  · have hM := fun c' (q : c ≤ c') => zeMore_cr H (c := c') hP (by omega) hs2
    have hpt : z.put s = if z.most < z.told + z.zeros + z.weight * (s + 1) then .error 2 else .ok ({ z with zeros := z.zeros + z.weight * (s + 1), weight := 2 * z.weight }, 0, 0) := by simp only [Ze.put, if_pos hs2]
    rw [hpt]
    by_cases q : z.most < z.told + z.zeros + z.weight * (s + 1)
    · simp only [if_pos q] at hM ⊢
      refine e_2 Tryz.func249 rfl (H _ (by decide)) Tryz.ntmps249 (by decide) ?_
      intro env U
      refine sg 3 J (qA U J (qA U J (qA U J (nK (rS (rB (sg 9 J (qM U J (qB U J J (nq166 _) (qM U J (qG U J J J J (qM U J (qG U J J J J (qN U J (qG U J J J J (qF U J fa322_5 (qG U J J J J (qL U J gA ((p4.1 _ _).trans J) ?_))))))))))))))))))
      refine qQ U J J J (J) (qA U J (nK (rF U J dA ?_)))
      refine sg 12 J (qM U J (qB U J J J (qM U J (qG U J J J h1 (qM U J (qG U J J J h1 (qM U J (qG U J J J h1 (qN U J (qG U J J J h1 (qF U J fa322_0 (qG U J J J h1 (qL U J gA ((p3.1 _ _).trans J) ?_)))))))))))))
      refine qG U J J J h1 (qP U J J wA ?_)
      refine qG U J J J h1 (qB U J J J (qQ U rfl rfl rfl (if_neg (by rw [h1]; decide)) ?_))
      refine qA U J (nK (rF U J dA ?_))
      refine sg 3 J (qM U J (qB U J J J (qA U J (nK (rT U J dA ?_)))))
      refine rS (sg 4 J (qM U J (qM U J (qC U J (CR.mono (hM _ oA) ?_)))))
      rintro v ⟨hh1, cc1⟩ ⟨rfl, hK⟩
      refine qA U J (nK (sg 2 J (qM U J (qB U J J J (nK (rT U J dA ?_))))))
      refine sg 4 J (qM U J (qA U J (qA U J (qA U J (nK (rR (kR (k_bloR (kR (f_3 U J (.inl J) J J J ?_))))))))))
      exact ⟨rfl, (hK.base (by omega)).up (by omega)⟩
    · simp only [if_neg q] at hM ⊢
      refine e_2 Tryz.func249 rfl (H _ (by decide)) Tryz.ntmps249 (by decide) ?_
      intro env U
      refine sg 3 J (qA U J (qA U J (qA U J (nK (rS (rB (sg 9 J (qM U J (qB U J J (nq166 _) (qM U J (qG U J J J J (qM U J (qG U J J J J (qN U J (qG U J J J J (qF U J fa322_5 (qG U J J J J (qL U J gA ((p4.1 _ _).trans J) ?_))))))))))))))))))
      refine qQ U J J J (J) (qA U J (nK (rF U J dA ?_)))
      refine sg 12 J (qM U J (qB U J J J (qM U J (qG U J J J h1 (qM U J (qG U J J J h1 (qM U J (qG U J J J h1 (qN U J (qG U J J J h1 (qF U J fa322_0 (qG U J J J h1 (qL U J gA ((p3.1 _ _).trans J) ?_)))))))))))))
      refine qG U J J J h1 (qP U J J wA ?_)
      refine qG U J J J h1 (qB U J J J (qQ U rfl rfl rfl (if_neg (by rw [h1]; decide)) ?_))
      refine qA U J (nK (rF U J dA ?_))
      refine sg 3 J (qM U J (qB U J J J (qA U J (nK (rT U J dA ?_)))))
      refine rS (sg 4 J (qM U J (qM U J (qC U J (CR.mono (hM _ oA) ?_)))))
      rintro v ⟨hh1, cc1⟩ ⟨⟨rfl, hP2⟩, hK⟩
      refine qA U J (nK (sg 2 J (qM U J (qB U J J J (nK (rF U J dA ?_))))))
      refine rK (kN (sg 3 J (qA U J (qA U J (qA U J (nK (rR (k_bloR (kR (f_3 U J (.inl J) J J J ?_))))))))))
      exact ⟨⟨rfl, hP2⟩, (hK.base (by omega)).up (by omega)⟩
  · by_cases hsn : s = z.n + 1
    · have hpt : z.put s = .ok ({ z with told := z.told + z.zeros, zeros := 0, weight := 1, done := true }, z.zeros, 0) := by simp only [Ze.put, if_neg hs2, if_pos hsn]
      rw [hpt]
      refine e_2 Tryz.func249 rfl (H _ (by decide)) Tryz.ntmps249 (by decide) ?_
      intro env U
      refine sg 3 J (qA U J (qA U J (qA U J (nK (rS (rB (sg 9 J (qM U J (qB U J J (nq166 _) (qM U J (qG U J J J J (qM U J (qG U J J J J (qN U J (qG U J J J J (qF U J fa322_5 (qG U J J J J (qL U J gA ((p4.1 _ _).trans J) ?_))))))))))))))))))
      refine qQ U J J J (J) (qA U J (nK (rF U J dA ?_)))
      refine sg 12 J (qM U J (qB U J J J (qM U J (qG U J J J h1 (qM U J (qG U J J J h1 (qM U J (qG U J J J h1 (qN U J (qG U J J J h1 (qF U J fa322_0 (qG U J J J h1 (qL U J gA ((p3.1 _ _).trans J) ?_)))))))))))))
      refine qG U J J J h1 (qP U J J wA ?_)
      refine qG U J J J h1 (qB U J J J (qQ U rfl rfl rfl (if_neg (by rw [h1]; decide)) ?_))
      refine qA U J (nK (rF U J dA ?_))
      refine sg 3 J (qM U J (qB U J J J (qA U J (nK (rF U J dA ?_)))))
      refine rK (kO (kN (sg 3 J (qM U J (q_sub U J J wA ?_)))))
      refine qA U J (nK (rS (sg 7 J (qM U J (qM U J (qN U J (qF U J fa322_0 (qL U J gA ((p3.1 _ _).trans J) ?_))))))))
      refine qP U J J wA ?_
      refine qB U J J J (nK (rT U rfl (by simp; omega) ?_))
      refine sg 4 J (qM U J (qN U J (qF U J fa322_5 (qW U rfl rfl gA p4 rfl rfl (by first | decide | (simp; done) | (simp; omega)) ?_))))
      refine nK (rg 1 J (qA U J (nK (sg 5 J (qM U J (qN U J (qF U J fa322_3 (qL U J gA ((p3.1 _ _).trans J) ?_))))))))
      refine qA U J (nK (sg 9 J (qM U J (qN U J (qF U J fa322_2 (qL U J gA ((p3.1 _ _).trans J) ?_))))))
      refine qM U J (qP U J J wA ?_)
      refine qN U J (qF U J fa322_2 (qW U rfl rfl gA p3 rfl rfl (by first | decide | (simp; done) | (simp; omega)) ?_))
      refine nK (sg 4 J (qM U J (qN U J (qF U J fa322_3 (qW U rfl rfl gA p3 rfl rfl (by first | decide | (simp; done) | (simp; omega)) ?_)))))
      refine nK (sg 4 J (qM U J (qN U J (qF U J fa322_4 (qW U rfl rfl gA p3 rfl rfl (by first | decide | (simp; done) | (simp; omega)) ?_)))))
      refine nK (sg 5 J (qM U J (qM U J (qA U J (qA U J (qA U J (nK (rR (f_3 U J (.inl J) J J J ?_)))))))))
      refine ⟨⟨rfl, ⟨g1, g2, g3, by dsimp only; omega, by dsimp only; omega⟩, ?_⟩, (((((Keep.refl (Nat.le_refl c)).set (nm := b) (.inr (by simp))).set (nm := b) (.inr (by simp))).set (nm := b) (.inr (by simp))).set (nm := b) (.inr (by simp))).up oA⟩
      dsimp only; rw [T.get_set, if_pos rfl]; rfl
    · by_cases hct : z.told + z.zeros = z.most
      · have hpt : z.put s = .error 2 := by simp only [Ze.put, if_neg hs2, if_neg hsn, if_pos hct]
        rw [hpt]
        refine e_2 Tryz.func249 rfl (H _ (by decide)) Tryz.ntmps249 (by decide) ?_
        intro env U
        refine sg 3 J (qA U J (qA U J (qA U J (nK (rS (rB (sg 9 J (qM U J (qB U J J (nq166 _) (qM U J (qG U J J J J (qM U J (qG U J J J J (qN U J (qG U J J J J (qF U J fa322_5 (qG U J J J J (qL U J gA ((p4.1 _ _).trans J) ?_))))))))))))))))))
        refine qQ U J J J (J) (qA U J (nK (rF U J dA ?_)))
        refine sg 12 J (qM U J (qB U J J J (qM U J (qG U J J J h1 (qM U J (qG U J J J h1 (qM U J (qG U J J J h1 (qN U J (qG U J J J h1 (qF U J fa322_0 (qG U J J J h1 (qL U J gA ((p3.1 _ _).trans J) ?_)))))))))))))
        refine qG U J J J h1 (qP U J J wA ?_)
        refine qG U J J J h1 (qB U J J J (qQ U rfl rfl rfl (if_neg (by rw [h1]; decide)) ?_))
        refine qA U J (nK (rF U J dA ?_))
        refine sg 3 J (qM U J (qB U J J J (qA U J (nK (rF U J dA ?_)))))
        refine rK (kO (kN (sg 3 J (qM U J (q_sub U J J wA ?_)))))
        refine qA U J (nK (rS (sg 7 J (qM U J (qM U J (qN U J (qF U J fa322_0 (qL U J gA ((p3.1 _ _).trans J) ?_))))))))
        refine qP U J J wA ?_
        refine qB U J J J (nK (rF U rfl (by simp; omega) ?_))
        refine rS (rD [(5, 0)] (by decide +kernel) (by decide +kernel) (n := 7) rfl ?_)
        refine qM U J (qC U J (CR.mono (zeCount_cr H hP) ?_))
        rintro v ⟨hh1, cc1⟩ ⟨rfl, rfl, hk⟩
        try dsimp only at hk
        refine qM U J (qN U J (qF U J fa322_1 (qL U J gA ((p3.1 _ _).trans J) ?_)))
        refine qB U J J J ?_
        refine ro_nilp ?_ ?_
        · exact all1 (pair_load U rfl rfl rfl rfl ((heapAt_old rfl (by omega)).trans hb) ((p3.1 _ _).trans rfl) rfl (same_int _ _))
        refine kN (rT U rfl (by simp; omega) ?_)
        refine sg 3 J (qA U J (qA U J (qA U J (nK (rR (kR (f_3 U J (.inl J) J J J ?_)))))))
        exact ⟨rfl, Keep.refl (by omega)⟩
      · have hpt : z.put s = .ok ({ z with told := z.told + z.zeros + 1, zeros := 0, weight := 1 }, z.zeros, s - 1) := by simp only [Ze.put, if_neg hs2, if_neg hsn, if_neg hct]
        rw [hpt]
        refine e_2 Tryz.func249 rfl (H _ (by decide)) Tryz.ntmps249 (by decide) ?_
        intro env U
        refine sg 3 J (qA U J (qA U J (qA U J (nK (rS (rB (sg 9 J (qM U J (qB U J J (nq166 _) (qM U J (qG U J J J J (qM U J (qG U J J J J (qN U J (qG U J J J J (qF U J fa322_5 (qG U J J J J (qL U J gA ((p4.1 _ _).trans J) ?_))))))))))))))))))
        refine qQ U J J J (J) (qA U J (nK (rF U J dA ?_)))
        refine sg 12 J (qM U J (qB U J J J (qM U J (qG U J J J h1 (qM U J (qG U J J J h1 (qM U J (qG U J J J h1 (qN U J (qG U J J J h1 (qF U J fa322_0 (qG U J J J h1 (qL U J gA ((p3.1 _ _).trans J) ?_)))))))))))))
        refine qG U J J J h1 (qP U J J wA ?_)
        refine qG U J J J h1 (qB U J J J (qQ U rfl rfl rfl (if_neg (by rw [h1]; decide)) ?_))
        refine qA U J (nK (rF U J dA ?_))
        refine sg 3 J (qM U J (qB U J J J (qA U J (nK (rF U J dA ?_)))))
        refine rK (kO (kN (sg 3 J (qM U J (q_sub U J J wA ?_)))))
        refine qA U J (nK (rS (sg 7 J (qM U J (qM U J (qN U J (qF U J fa322_0 (qL U J gA ((p3.1 _ _).trans J) ?_))))))))
        refine qP U J J wA ?_
        refine qB U J J J (nK (rF U rfl (by simp; omega) ?_))
        refine rS (rD [(5, 0)] (by decide +kernel) (by decide +kernel) (n := 7) rfl ?_)
        refine qM U J (qC U J (CR.mono (zeCount_cr H hP) ?_))
        rintro v ⟨hh1, cc1⟩ ⟨rfl, rfl, hk⟩
        try dsimp only at hk
        refine qM U J (qN U J (qF U J fa322_1 (qL U J gA ((p3.1 _ _).trans J) ?_)))
        refine qB U J J J ?_
        refine ro_nilp ?_ ?_
        · exact all1 (pair_load U rfl rfl rfl rfl ((heapAt_old rfl (by omega)).trans hb) ((p3.1 _ _).trans rfl) rfl (same_int _ _))
        refine kN (rF U rfl (by simp; omega) ?_)
        refine rg 8 J (qM U J (qN U J (qF U J fa322_2 (qL U J gA ((p3.1 _ _).trans J) ?_))))
        refine qP U J J wA ?_
        refine qN U J (qF U J fa322_2 (qW U rfl rfl gA p3 rfl rfl (by first | decide | (simp; done) | (simp; omega)) ?_))
        refine nK (sg 5 J (qM U J (qN U J (qF U J fa322_3 (qL U J gA ((p3.1 _ _).trans J) ?_)))))
        refine qA U J (nK (sg 9 J (qM U J (qN U J (qF U J fa322_2 (qL U J gA ((p3.1 _ _).trans J) ?_))))))
        refine qM U J (qP U J J wA ?_)
        refine qN U J (qF U J fa322_2 (qW U rfl rfl gA p3 rfl rfl (by first | decide | (simp; done) | (simp; omega)) ?_))
        refine nK (sg 4 J (qM U J (qN U J (qF U J fa322_3 (qW U rfl rfl gA p3 rfl rfl (by first | decide | (simp; done) | (simp; omega)) ?_)))))
        refine nK (sg 4 J (qM U J (qN U J (qF U J fa322_4 (qW U rfl rfl gA p3 rfl rfl (by first | decide | (simp; done) | (simp; omega)) ?_)))))
        refine nK (sg 5 J (qM U J (qM U J (qA U J (qA U J (qA U J (nK (rR (f_3 U J (.inl J) J J J ?_)))))))))
        refine ⟨⟨?_, ⟨g1, g2, g3, by dsimp only; omega, by dsimp only; omega⟩, ?_⟩, (((((Keep.refl (Nat.le_refl c)).set (nm := b) (.inr (by simp))).set (nm := b) (.inr (by simp))).set (nm := b) (.inr (by simp))).set (nm := b) (.inr (by simp))).up oA⟩
        · rw [if_neg (by omega)]; have e1 : ((s - 1 : Nat) : Int) = (s : Int) - 1 := by omega
          rw [e1]; rfl
        · dsimp only; rw [T.get_set, if_pos rfl]; have e2 : ((z.told : Nat) : Int) + 1 + ((z.zeros : Nat) : Int) = ((z.told + z.zeros + 1 : Nat) : Int) := by omega
          rw [hd]; simp [e2]
end
theorem txt_size (s : List Nat) : (txt s).size = s.length := by simp [txt, ByteArray.size]
theorem txt_get {s : List Nat} {i x : Nat} (h : s[i]? = some x) : (txt s)[i]? = some (UInt8.ofNat x) := by
  have hi : i < s.length := by rcases Nat.lt_or_ge i s.length with q | q; exact q; rw [List.getElem?_eq_none q] at h; cases h
  rw [getElem?_pos (txt s) i (by rw [txt_size]; exact hi)]
  have h2 : s[i] = x := by rw [List.getElem?_eq_getElem hi] at h; exact Option.some.inj h
  congr 1
  show (txt s).data[i]'_ = _
  simp [txt, h2]
theorem Asc.get {l : List Nat} (h : Asc l) : ∀ {i j x y : Nat}, i < j → l[i]? = some x → l[j]? = some y → x < y := by
  induction l with
  | nil => intro i j x y _ h1; simp at h1
  | cons a l ih =>
    intro i j x y hij h1 h2
    cases j with
    | zero => omega
    | succ j =>
      cases i with
      | zero => simp at h1 h2; subst h1; exact h.1 y (List.mem_of_getElem? h2)
      | succ i => simp at h1 h2; exact ih h.2 (by omega) h1 h2
section
variable {ov : OvT} (H : OvH ov)
include H
theorem is_cr {h : Heap} {c : Nat} {s : List Nat} (hA : Asc s) (h256 : ∀ x ∈ s, x < 256) (hne : s ≠ []) (hl9 : s.length ≤ 1000) :
    CR Tryz.prog ov 259 [.string (txt s)] ⟨h, c⟩ (fun v st => v = .bool true ∧ Same h c st) := by
  have hsz := txt_size s
  refine e_1 Tryz.func259 rfl (H _ (by decide)) Tryz.ntmps259 (by decide) ?_
  intro env U
  refine sg 1 J (qA U J (nK (rS (sg 3 J (qM U J (qK U J Tryz.underlying9 (qM U J (nK (rB ?_)))))))))
  refine rL (fun m env' s' => ∃ j, m = s.length - j ∧ j ≤ s.length ∧ Hd 24 [(0, .string (txt s)), (5, nv s.length), (6, nv j)] env' ∧ s'.heap = h ∧ c ≤ s'.ctr) s.length ?_ ?_
  · exact ⟨0, rfl, Nat.zero_le _, Ho U ⟨rfl, by rw [hsz]; rfl, rfl, trivial⟩, rfl, by dsimp only; omega⟩
  rintro m _ ⟨h2, c2⟩ ⟨j, rfl, hj, ⟨env, U, rfl⟩, he, hc2⟩
  dsimp only at he hc2
  subst he
  refine sg 1 J (qB U J J J (nK (rS ?_)))
  refine rC U rfl (fun hjn => ?_) (fun hjn => ?_)
  · try simp only [dz, dy] at hjn
    obtain ⟨x, hx⟩ : ∃ x, s[j]? = some x := ⟨_, List.getElem?_eq_getElem (by omega)⟩
    have hx2 := h256 x (List.mem_of_getElem? hx)
    refine rK (kN (rS (rB (sg 2 J (qM U J (qA U J (nK (rS (rD [] (by decide +kernel) (by decide +kernel) (n := 12) rfl ?_)))))))))
    refine qM U J (qB U J J J (qM U J ?_))
    refine q_case U (rfl : lk _ _ 11 = _) (fun hg => ?_) (fun hg => ?_)
    · have hg_ := hg
      try simp only [dz] at hg_
      obtain ⟨y, hy⟩ : ∃ y, s[j - 1]? = some y := ⟨_, List.getElem?_eq_getElem (by omega)⟩
      have hy2 := h256 y (List.mem_of_getElem? hy)
      have hlt := hA.get (show j - 1 < j by omega) hy hx
      refine qG U J J J hg (qM U J (qG U J J J hg (qM U J (qG U J J J hg (qJ U J J Tryz.underlying9 oA (txt_get hx) ?_)))))
      refine qG U J J J hg (qM U J (qG U J J J hg (qM U J (qG U J J J hg (q_sub U J J wA ?_)))))
      refine qG U J J J hg (qJ U rfl rfl Tryz.underlying9 oA (by have := txt_get hy; rw [show ((j : Int) - 1).toNat = j - 1 by omega]; exact this) ?_)
      refine qG U J J J hg (qB U J J J (qQ U J J J (if_pos hg) (ro_nild (kN (rF U rfl (by simp [UInt8.toNat_ofNat, Nat.mod_eq_of_lt hx2, Nat.mod_eq_of_lt hy2]; omega) ?_)))))
      refine rK (kO (kN (rg 2 J (qP U J J wA ?_))))
      refine qM U J (nK ?_)
      exact ⟨s.length - (j + 1), by omega, j + 1, rfl, by omega, Ho U ⟨rfl, rfl, rfl, trivial⟩, rfl, by dsimp only at *; omega⟩
    · have hg_ := hg
      try simp only [dz] at hg_
      refine qS U rfl rfl rfl rfl (by rw [hg]; decide) ?_
      refine qS U rfl rfl rfl rfl (by rw [hg]; decide) ?_
      refine qS U rfl rfl rfl rfl (by rw [hg]; decide) ?_
      refine qS U rfl rfl rfl rfl (by rw [hg]; decide) ?_
      refine qS U rfl rfl rfl rfl (by rw [hg]; decide) ?_
      refine qS U rfl rfl rfl rfl (by rw [hg]; decide) ?_
      refine qS U rfl rfl rfl rfl (by rw [hg]; decide) ?_
      refine qS U rfl rfl rfl rfl (by rw [hg]; decide) ?_
      refine qQ U rfl rfl rfl (if_neg (by rw [hg]; decide)) ?_
      refine ro_nild (kN (rF U J dA ?_))
      refine rK (kO (kN (rg 2 J (qP U J J wA ?_))))
      refine qM U J (nK ?_)
      exact ⟨s.length - (j + 1), by omega, j + 1, rfl, by omega, Ho U ⟨rfl, rfl, rfl, trivial⟩, rfl, by dsimp only at *; omega⟩
  · try simp only [dz, dy] at hjn
    refine r_exit (kE (kE (kB (kN (sg 3 J (qM U J (qB U J J J (qA U J (nK (rR (f_1 U J (.inl J) J ?_)))))))))))
    refine ⟨?_, rfl, by dsimp only; omega⟩
    cases s with | nil => exact absurd rfl hne | cons a s => simp [txt, Go.ByteArray.toList_eq]
theorem mtNew_cr {h : Heap} {c : Nat} {s : List Nat} (hA : Asc s) (h256 : ∀ x ∈ s, x < 256) (hne : s ≠ []) (hl9 : s.length ≤ 256) :
    CR Tryz.prog ov 242 [.string (txt s)] ⟨h, c⟩ (fun v st => ∃ b a, v = .tuple #[ptr b, nv 0] ∧ MtR s b a st.heap.get ∧ (∀ z ∈ b :: own a, c ≤ z ∧ z < st.ctr) ∧ Keep [] h c st) := by
  have hsz := txt_size s
  have h0 : 0 < s.length := by cases s with | nil => exact absurd rfl hne | cons a s => simp
  refine e_1 Tryz.func242 rfl (H _ (by decide)) Tryz.ntmps242 (by decide) ?_
  intro env U
  refine sg 2 J (qA U J (qA U J (nK (rS (sg 3 J (qM U J (qC U J (CR.mono (is_cr H hA h256 hne oA) ?_))))))))
  rintro v ⟨hh1, cc1⟩ ⟨rfl, rfl, hk⟩
  try dsimp only at hk
  refine q_un U J J (nK (rF U J dA ?_))
  refine rK (kN (sg 6 J (qM U J (q_convSB U rfl Tryz.underlying9 Tryz.underlying102 Tryz.underlying5 i5 s5 (by rw [hsz]; omega) ?_))))
  refine qU U rfl i305 z305 rfl (by simp [Program.built, Instr.fill, Tryz.underlying305, Value.cells]; rfl) ?_
  refine q_box U J (qA U J (qA U J (nK (rR (f_2 U J (.inl J) J J ?_)))))
  refine ⟨cc1 + 3, some ⟨cc1 + 1, 0, none⟩, rfl, ⟨h256, h0, hl9, 1, ?_, .inr ⟨cc1 + 1, rfl, rfl, ?_, by simp, h0⟩⟩, fun z hz => ?_, (((Keep.refl (Nat.le_refl c)).set (.inl oA)).set (.inl oA)).up oA⟩
  · dsimp only; rw [T.get_set, if_pos rfl, hsz]; rfl
  · dsimp only; rw [T.get_set, if_neg (by omega), T.get_set, if_pos rfl]
    have := txt_cells h256; simp only [txt]; rw [this]
  · simp only [own, List.mem_cons, List.not_mem_nil, or_false] at hz; dsimp only; rcases hz with q | q <;> omega
theorem mtTouch_cr {h : Heap} {c b i : Nat} {l : List Nat} {a : Option Addr} (hP : MtR l b a h.get) (hc : b < c ∧ ∀ z ∈ own a, z < c) (hi : i < l.length) :
    CR Tryz.prog ov 243 [ptr b, nv i] ⟨h, c⟩ (fun v st => v = bv (l.getD i 0) ∧ MtR (moved l i) b a st.heap.get ∧ Keep (own a) h c st) := by
  obtain ⟨h256, h0, hl9, cp, hb, hS⟩ := id hP
  have hbo := own_ne hS hb (by dsimp only; decide)
  obtain ⟨mb, rfl, rfl, hmb⟩ := hS.pos h0
  have hmc : mb < c := hc.2 mb (by simp [own])
  obtain ⟨x, hx⟩ : ∃ x, l[i]? = some x := ⟨_, List.getElem?_eq_getElem hi⟩
  have hbm : b ≠ mb := by simpa [own] using hbo
  have hes : (h.get mb).map (·.es) = some 1 := by rw [hmb]; rfl
  have hall : ((l.map bv).take i).all oneCell = true := by simp [List.all_eq_true]; intro y hy; obtain ⟨z, _, rfl⟩ := (by simpa using List.mem_of_mem_take hy : ∃ z, z ∈ l ∧ bv z = y); rfl
  have hmlen := moved_len hi
  have hms : ∀ y ∈ moved l i, y < 256 := fun y hy => h256 y (moved_mem hi hy)
  have e1 : (l.map bv).take 1 ++ (l.map bv).take i ++ (l.map bv).drop (1 + i) = ((l.map bv).take 1 ++ (l.map bv).take i ++ (l.map bv).drop (1 + i)) := rfl
  have hset : ((l.map bv).take 1 ++ (l.map bv).take i ++ (l.map bv).drop (1 + i)).set 0 (bv x) = (moved l i).map bv := by
    cases l with
    | nil => simp at hi
    | cons y l => simp only [moved, List.eraseIdx_eq_take_drop_succ, List.getD_eq_getElem?_getD, hx]; simp [Nat.add_comm]
  refine e_2 Tryz.func243 rfl (H _ (by decide)) Tryz.ntmps243 (by decide) ?_
  intro env U
  refine sg 1 J (qA U J (nK (sg 8 J (qM U J (qN U J (qF U J fa305_0 (qL U rfl (by first | assumption | (simp only [gs, hb, hbm, if_false]; rfl) | (simp [gs, hb, hbm, if_false]; try rfl)) ((p102.1 _ _).trans rfl) ?_)))))))
  refine qM U J (qI U rfl rfl e102 ⟨by omega, by omega⟩ ?_)
  refine qL U rfl (by first | assumption | (simp only [gs, hb, hbm, if_false]; rfl) | (simp [gs, hb, hbm, if_false]; try rfl)) ((p5.1 _ _).trans (by rw [show 0 + (i : Int).toNat * 1 = i by omega]; simp [hx])) (v := bv x) ?_
  refine qA U J (nK (rS (rD [] (by decide +kernel) (by decide +kernel) (n := 14) rfl ?_)))
  refine qM U J (qN U J (qF U J fa305_0 (qL U rfl (by first | assumption | (simp only [gs, hb, hbm, if_false]; rfl) | (simp [gs, hb, hbm, if_false]; try rfl)) ((p102.1 _ _).trans rfl) ?_)))
  refine qM U J (qP U J J wA ?_)
  refine q_sliceL U rfl e102 rfl rfl ⟨by omega, by omega, by omega⟩ (.inr hes) ?_
  refine qM U J (qN U J (qF U J fa305_0 (qL U rfl (by first | assumption | (simp only [gs, hb, hbm, if_false]; rfl) | (simp [gs, hb, hbm, if_false]; try rfl)) ((p102.1 _ _).trans rfl) ?_)))
  refine qM U J (q_sliceL U rfl e102 rfl rfl ⟨by omega, by omega, by omega⟩ (.inl rfl) ?_)
  refine q_copy U rfl rfl e102 (m := i) (new := (l.map bv).take i) (by simp [srcCells, Tryz.underlying102, hmb]; exact ⟨by omega, by simpa using hall⟩) hmb (by simp; omega) (cs := (l.map bv).take 1 ++ (l.map bv).take i ++ (l.map bv).drop (1 + i)) (by rw [List.take_take, show min (min i (((i : Int) + 1).toNat - Int.toNat 1) * 1) i = i by omega, show 0 + Int.toNat 1 * 1 = 1 from rfl, setCells_eq _ _ _ (by simp; omega)]; simp [Nat.min_eq_left (Nat.le_of_lt hi)]) ?_
  refine ro_nild (kN (sg 7 J (qM U J (qN U J (qF U J fa305_0 (qL U rfl (by first | assumption | (simp only [gs, hb, hbm, if_false]; rfl) | (simp [gs, hb, hbm, if_false]; try rfl)) ((p102.1 _ _).trans rfl) ?_))))))
  refine qM U J (qI U rfl rfl e102 ⟨by omega, by omega⟩ ?_)
  refine qW U rfl rfl (by first | assumption | (simp only [gs, hb, hbm, if_false]; rfl) | (simp [gs, hb, hbm, if_false]; try rfl)) p5 rfl rfl (by simp; omega) ?_
  refine nK (sg 2 J (qM U J (qA U J (nK (rR (f_1 U J (.inl J) J ?_))))))
  refine ⟨by rw [List.getD_eq_getElem?_getD, hx]; rfl, ⟨hms, by omega, by omega, 1, ?_, .inr ⟨mb, rfl, rfl, ?_, by simp, by omega⟩⟩, (((Keep.refl (Nat.le_refl c)).set (nm := mb) (.inr (by simp [own]))).set (nm := mb) (.inr (by simp [own]))).up oA⟩
  · dsimp only; rw [T.get_set, if_neg hbm, T.get_set, if_neg hbm, hb, hmlen]
  · dsimp only; rw [T.get_set, if_pos rfl, show 0 + Int.toNat 0 * 1 = 0 from rfl, hset]
theorem mtAt_cr {h : Heap} {c b i : Nat} {l : List Nat} {a : Option Addr} (hP : MtR l b a h.get) (hc : b < c ∧ ∀ z ∈ own a, z < c) (hi : i < l.length) :
    CR Tryz.prog ov 225 [ptr b, nv i] ⟨h, c⟩ (fun v st => v = .tuple #[bv (l.getD i 0), nv 0] ∧ MtR (moved l i) b a st.heap.get ∧ Keep (own a) h c st) := by
  obtain ⟨h256, h0, hl9, cp, hb, hS⟩ := id hP
  have h1 : decide ((i : Int) < 0) = false := by simp
  refine e_2 Tryz.func225 rfl (H _ (by decide)) Tryz.ntmps225 (by decide) ?_
  intro env U
  refine sg 2 J (qA U J (qA U J (nK (rS (rB (sg 3 J (qM U J (qB U J J (nq167 _) (qA U J (nK (rF U J dA ?_)))))))))))
  refine sg 12 J (qM U J (qB U J J J (qM U J (qG U J J J h1 (qM U J (qG U J J J h1 (qM U J (qG U J J J h1 (qN U J (qG U J J J h1 (qF U J fa305_0 (qG U J J J h1 (qL U J aA ((p102.1 _ _).trans J) ?_)))))))))))))
  refine qG U J J J h1 (q_lenL U J Tryz.underlying102 (qG U J J J h1 (qB U J J J (qQ U rfl rfl rfl (if_neg (by rw [h1]; decide)) ?_))))
  refine qA U J (nK (rF U J dA ?_))
  refine rK (kO (kN (sg 5 J (qM U J (qM U J (qC U J (CR.mono (mtTouch_cr H hP ⟨by omega, fun z hz => by have := hc.2 z hz; omega⟩ hi) ?_)))))))
  rintro v ⟨hh1, cc1⟩ ⟨rfl, hP2, hK⟩
  refine qA U J (qA U J (nK (rR (f_2 U J (.inl J) J J ?_))))
  exact ⟨rfl, hP2, (hK.base (by omega)).up (by omega)⟩
end
end Go.Proofs.YtegjkhgaoabfcaaGreat
namespace Go.AE
section
variable {P : Program} {ov : OvT} {ops : Array Oper} {c0 d n : Nat} {ty : TypeId} {pos : String} {after : Array Edge} {l : List Oper} {i : Nat} {env : Env} {w : List (Nat × Value)} {h : Heap} {c : Nat} {sn : List (Nat × Heap)} {md : Heap} {Q : RS → Prop}
theorem q_max {k1 k2 : IntKind} {a b m : Int} {x y : Operand} {ts : Array TypeId} (U : env.length = n) (hx : lkO n w x = some (.int k1 a)) (hy : lkO n w y = some (.int k2 b)) (hm : (if b > a then b else a) = m)
    (k : RO P ov ops c0 l (i + 1) ⟨E env ((d, .int k1 m) :: w), ⟨h, c⟩, sn, md⟩ Q) :
    RO P ov ops c0 (⟨some d, .call ⟨.builtin .max, #[x, y], ts⟩, ty, pos, after, none⟩ :: l) i ⟨E env w, ⟨h, c⟩, sn, md⟩ Q := by
  refine q_loc rfl ?_ k
  have h1 : (#[x, y] : Array Operand).toList.mapM (evalO (E env w)) = some [.int k1 a, .int k2 b] := evL U (by simp [lkL, hx, hy])
  simp only [evLocal, h1, minMax, if_true, hm]; rfl
end
end Go.AE
namespace Go.Proofs.YtegjkhgaoabfcaaGreat
open Go.AE
def Rw.good (x : Rw) : Prop := x.ze.n + 2 = x.co.size ∧ x.list.length = x.ze.n ∧ x.place < x.list.length ∧ x.ze.done = x.co.done ∧ x.due ≤ 1099511627776
def RwR (x : Rw) (b : Nat) (W : List Nat) (g : Nat → Option Blk) : Prop :=
  x.good ∧ ∃ (cb zb lb : Nat) (la : Option Addr) (cW : List Nat), g b = some ⟨[ptr cb, ptr zb, ptr lb, nv x.due, nv x.place], 169, 0⟩ ∧ CoR x.co cb cW g ∧ ZeR x.ze zb g ∧ MtR x.list lb la g ∧ W = b :: zb :: lb :: (own la ++ cW)
theorem ZeR.move {z : Ze} {b : Nat} {g g' : Nat → Option Blk} (h : ZeR z b g) (hg : g' b = g b) : ZeR z b g' := ⟨h.1, hg.trans h.2⟩
theorem MtR.kind {l : List Nat} {b : Nat} {a : Option Addr} {g : Nat → Option Blk} (h : MtR l b a g) : ∀ z ∈ own a, ∃ B, g z = some B ∧ B.elem = 5 := by
  obtain ⟨_, _, _, _, _, q⟩ := h; exact q.kind
theorem RwR.move {x : Rw} {b : Nat} {W : List Nat} {g g' : Nat → Option Blk} (h : RwR x b W g) (hg : ∀ z ∈ W, g' z = g z) : RwR x b W g' := by
  obtain ⟨h0, cb, zb, lb, la, cW, h1, h2, h3, h4, rfl⟩ := h
  exact ⟨h0, cb, zb, lb, la, cW, (hg b (by simp)).trans h1, h2.move (fun z hz => hg z (by simp [hz])), h3.move (hg zb (by simp)), h4.move (fun z hz => hg z (by rcases hz with rfl | hz <;> simp [*])), rfl⟩
theorem RwR.kind {x : Rw} {b : Nat} {W : List Nat} {g : Nat → Option Blk} (h : RwR x b W g) : ∀ z ∈ W, ∃ B, g z = some B ∧ B.elem ∈ [169, 322, 305, 5, 214, 255, 328, 3, 323, 333] := by
  obtain ⟨h0, cb, zb, lb, la, cW, h1, h2, h3, h4, rfl⟩ := h
  intro z hz
  simp only [List.mem_cons, List.mem_append] at hz
  rcases hz with rfl | rfl | rfl | hz | hz
  · exact ⟨_, h1, by simp⟩
  · exact ⟨_, h3.2, by simp⟩
  · obtain ⟨_, _, _, _, q, _⟩ := h4; exact ⟨_, q, by simp⟩
  · obtain ⟨B, q1, q2⟩ := h4.kind z hz; exact ⟨B, q1, by rw [q2]; simp⟩
  · obtain ⟨B, q1, q2⟩ := h2.kind z hz; refine ⟨B, q1, ?_⟩; simp only [List.mem_cons, List.not_mem_nil, or_false] at q2; rcases q2 with q | q | q | q | q | q <;> simp [q]
theorem Rw.apart {x : Rw} {b cb zb lb : Nat} {la : Option Addr} {cW : List Nat} {g : Nat → Option Blk} {B : Blk} (h1 : g b = some B) (hB : B.elem = 169) (h2 : CoR x.co cb cW g) (h3 : ZeR x.ze zb g) (h4 : MtR x.list lb la g) :
    b ≠ zb ∧ b ≠ lb ∧ b ∉ own la ∧ b ∉ cW ∧ zb ≠ lb ∧ zb ∉ own la ∧ zb ∉ cW ∧ lb ∉ own la ∧ lb ∉ cW ∧ ∀ z ∈ own la, z ∉ cW := by
  obtain ⟨_, _, _, _, U, hS⟩ := id h4
  refine ⟨blk_ne h1 h3.2 (by rw [hB]; dsimp only; decide), blk_ne h1 U (by rw [hB]; dsimp only; decide), own_ne hS h1 (by rw [hB]; decide), kind_ne h2.kind h1 (by rw [hB]; decide), blk_ne h3.2 U (by dsimp only; decide), own_ne hS h3.2 (by dsimp only; decide), kind_ne h2.kind h3.2 (by dsimp only; decide), own_ne hS U (by dsimp only; decide), kind_ne h2.kind U (by dsimp only; decide), fun z hz => ?_⟩
  obtain ⟨B', q1, q2⟩ := hS.kind z hz
  exact kind_ne h2.kind q1 (by rw [q2]; decide)
section
variable {ov : OvT} (H : OvH ov)
include H
theorem rwNew_cr {h : Heap} {c room : Nat} {s : List Nat} (hA : Asc s) (h256 : ∀ x ∈ s, x < 256) (hne : s ≠ []) (hl9 : s.length ≤ 256) (hr : room ≤ 900000) :
    CR Tryz.prog ov 224 [.string (txt s), nv room] ⟨h, c⟩ (fun v st => ∃ b W, v = ptr b ∧ RwR (Rw.new s room) b W st.heap.get ∧ (∀ z ∈ W, c ≤ z ∧ z < st.ctr) ∧ Keep [] h c st) := by
  have hsz := txt_size s
  have h0 : 0 < s.length := by cases s with | nil => exact absurd rfl hne | cons a s => simp
  refine e_2 Tryz.func224 rfl (H _ (by decide)) Tryz.ntmps224 (by decide) ?_
  intro env U
  refine sg 1 J (qA U J (nK (sg 9 J (qM U J (qK U J Tryz.underlying9 (qP U rfl rfl (m := ((s.length + 2 : Nat) : Int)) (by rw [wrapI oA oA]; omega) ?_))))))
  refine qC U J (CR.mono (coNew_cr H (n := s.length + 2) oA) ?_)
  rintro v ⟨hh1, cc1⟩ ⟨cb, cW, rfl, hC, hCW, hCK⟩
  refine qM U J (qE U J J (qE U J J (qA U J (qA U J (nK (sg 9 J ?_))))))
  have hcc1 := hCK.1
  dsimp only at hcc1 hC hCW
  refine qM U J (qK U J Tryz.underlying9 (qM U J ?_))
  rw [hsz]
  refine qC U J (CR.mono (zeNew_cr H (n := s.length) ⟨by omega, hl9⟩ oA) ?_)
  rintro v ⟨hh2, cc2⟩ ⟨zb, rfl, hZ, hZ1, hZ2, hZK⟩
  refine qM U J (qE U J J (qE U J J (qA U J (qA U J (nK (sg 7 J ?_))))))
  have hcc2 := hZK.1
  dsimp only at hcc2 hZ hZ2
  refine qM U J (qC U J (CR.mono (mtNew_cr H hA h256 hne hl9) ?_))
  rintro v ⟨hh3, cc3⟩ ⟨lb, la, rfl, hM, hMW, hMK⟩
  refine qM U J (qE U J J (qE U J J (qA U J (qA U J (nK (sg 6 J ?_))))))
  have hcc3 := hMK.1
  dsimp only at hcc3 hM hMW
  refine qM U J (qM U J (qM U J (qU U rfl i169 z169 rfl (by simp [Program.built, Instr.fill, Tryz.underlying169, Value.cells]; rfl) ?_)))
  refine q_box U J (qA U J (nK (rR (f_1 U J (.inl J) J ?_))))
  refine ⟨cc3 + 4, (cc3 + 4) :: zb :: lb :: (own la ++ cW), rfl, ⟨⟨rfl, rfl, h0, rfl, Nat.zero_le _⟩, cb, zb, lb, la, cW, ?_, hC.move ?_, hZ.move ?_, hM.move ?_, rfl⟩, ?_, ?_⟩
  · dsimp only; rw [T.get_set, if_pos rfl]; rfl
  · intro z hz; have := hCW z hz; dsimp only; rw [T.get_set, if_neg (by omega), hMK.2 z (by omega) (by simp)]; exact hZK.2 z (by omega) (by simp)
  · dsimp only; rw [T.get_set, if_neg (by omega)]; exact hMK.2 zb (by omega) (by simp)
  · intro z hz; have := hMW z (by simpa using hz); dsimp only; rw [T.get_set, if_neg (by omega)]
  · intro z hz; simp only [List.mem_cons, List.mem_append] at hz; dsimp only
    rcases hz with q | q | q | q | q
    · omega
    · omega
    · have := hMW z (by simp [q]); omega
    · have := hMW z (by simp [q]); omega
    · have := hCW z q; omega
  · exact ((((((hCK.base (by omega)).up (c3 := cc1 + 9) (by omega)).call hZK (by simp)).up (c3 := cc2 + 7) (by omega)).call hMK (by simp)).set (.inl (by omega))).up (by omega)
theorem rwWaits_cr {h : Heap} {c b : Nat} {x : Rw} {W : List Nat} (hP : RwR x b W h.get) :
    CR Tryz.prog ov 207 [ptr b] ⟨h, c⟩ (fun v st => v = .bool x.waits ∧ Same h c st) := by
  obtain ⟨_, cb, zb, lb, la, cW, hb, h2, h3, h4, rfl⟩ := id hP
  refine e_1 Tryz.func207 rfl (H _ (by decide)) Tryz.ntmps207 (by decide) ?_
  intro env U
  refine sg 1 J (qA U J (nK (sg 17 J (qM U J (qB U J J (nn162 _) (qM U J (qG U J J J J (qM U J (qG U J J J J (qN U J (qG U J J J J (qF U J fa169_3 (qG U J J J J (qL U J aA ((p3.1 _ _).trans J) ?_))))))))))))))
  refine qG U J J J J (qB U J J J (qG U J J J J (qM U J ?_)))
  refine q_case U (rfl : lk _ _ 11 = _) (fun hg => ?_) (fun hg => ?_)
  · have hg_ := hg
    try simp only [dz] at hg_
    refine qS U rfl rfl rfl rfl (by rw [hg]; decide) ?_
    refine qS U rfl rfl rfl rfl (by rw [hg]; decide) ?_
    refine qS U rfl rfl rfl rfl (by rw [hg]; decide) ?_
    refine qS U rfl rfl rfl rfl (by rw [hg]; decide) ?_
    refine qS U rfl rfl rfl rfl (by rw [hg]; decide) ?_
    refine qG U J J J J (qQ U J J J (if_pos hg) (qQ U J J J (if_pos J) (qA U J (nK (rR (f_1 U J (.inl J) J ?_))))))
    refine ⟨?_, rfl, by simp <;> omega⟩
    have q : 0 < x.due := by omega
    simp [Rw.waits, q]
  · have hg_ := hg
    try simp only [dz] at hg_
    refine qG U J J J hg (qM U J (qG U J J J hg (qN U J (qG U J J J hg (qF U J fa169_4 (qG U J J J hg (qL U J aA ((p3.1 _ _).trans J) ?_)))))))
    refine qG U J J J hg (qB U J J J (qG U J J J J (qQ U rfl rfl rfl (if_neg (by rw [hg]; decide)) ?_)))
    refine qQ U J J J (if_pos J) (qA U J (nK (rR (f_1 U J (.inl J) J ?_))))
    refine ⟨?_, rfl, by simp <;> omega⟩
    have q : ¬ 0 < x.due := by omega
    simp [Rw.waits, q]
theorem rwNext_cr {h : Heap} {c b : Nat} {x : Rw} {W : List Nat} (hP : RwR x b W h.get) (hc : ∀ z ∈ W, z < c) :
    CR Tryz.prog ov 208 [ptr b] ⟨h, c⟩ (fun v st => v = bv (x.list.getD x.at_ 0) ∧ RwR x.next b W st.heap.get ∧ Keep W h c st) := by
  obtain ⟨⟨g1, g2, g3, g4, g5⟩, cb, zb, lb, la, cW, hb, h2, h3, h4, rfl⟩ := id hP
  obtain ⟨n1, n2, n3, n4, n5, n6, n7, n8, n9, n10⟩ := Rw.apart hb rfl h2 h3 h4
  have hbc := hc b (by simp)
  have hlb := hc lb (by simp)
  have hla : ∀ z ∈ own la, z < c := fun z hz => hc z (by simp [hz])
  by_cases hd : 0 < x.due
  · have ea : x.at_ = 0 := by simp [Rw.at_, hd]
    have ex : x.next = { x with due := x.due - 1, list := moved x.list 0 } := by simp [Rw.next, hd]
    rw [ea, ex]
    refine e_1 Tryz.func208 rfl (H _ (by decide)) Tryz.ntmps208 (by decide) ?_
    intro env U
    refine sg 1 J (qA U J (nK (sg 1 J (qA U J (nK (rS (sg 5 J (qM U J (qN U J (qF U J fa169_3 (qL U rfl (by first | assumption | (simp only [gs, hb1]; rfl) | (simp [gs, hb1]; try rfl)) ((p3.1 _ _).trans rfl) ?_)))))))))))
    refine qB U J J J (nK (rT U rfl (by simp; omega) ?_))
    refine rg 8 J (qM U J (qN U J (qF U J fa169_3 (qL U rfl (by first | assumption | (simp only [gs, hb1]; rfl) | (simp [gs, hb1]; try rfl)) ((p3.1 _ _).trans rfl) ?_))))
    refine q_sub U J J wA ?_
    refine qN U J (qF U J fa169_3 (qW U rfl rfl (by first | assumption | (simp only [gs, hb1]; rfl) | (simp [gs, hb1]; try rfl)) p3 rfl rfl (by first | decide | (simp; done) | (simp; omega)) ?_))
    refine nK (sg 11 J ?_)
    have hb1 := hb
    refine qM U J (qN U J (qF U J fa169_2 (qL U rfl (by first | assumption | (simp only [gs, hb1]; rfl) | (simp [gs, hb1]; try rfl)) ((p167.1 _ _).trans rfl) ?_)))
    refine qM U J (qC U J (CR.mono (mtAt_cr H (i := 0) (h4.move (g' := _) (fun z hz => (T.get_set _ _ _ _).trans (if_neg (by rcases hz with e | e; (exact e ▸ n2.symm); (exact fun q => n3 (q ▸ e)))))) ⟨by omega, fun z hz => by have := hla z hz; omega⟩ oA) ?_))
    rintro v ⟨hh1, cc1⟩ ⟨rfl, hM, hK⟩
    refine qM U J (qE U J J (qE U J J (qA U J (qA U J (nK (sg 2 J (qM U J (qA U J (nK (rR (f_1 U J (.inl J) J ?_)))))))))))
    have e1 : hh1.get b = some ⟨[ptr cb, ptr zb, ptr lb, nv (x.due - 1 : Nat), nv x.place], 169, 0⟩ := by rw [hK.2 b (by omega) n3, T.get_set, if_pos rfl]; have e2 : ((x.due : Nat) : Int) - 1 = ((x.due - 1 : Nat) : Int) := (by omega); simp only [e2]; rfl
    refine ⟨rfl, ⟨⟨g1, by dsimp only; rw [moved_len oA]; exact g2, by dsimp only; rw [moved_len oA]; exact g3, g4, by dsimp only; omega⟩, cb, zb, lb, la, cW, e1, h2.move ?_, h3.move ?_, hM, rfl⟩, ?_⟩
    · intro z hz; rw [hK.2 z (by have := hc z (by simp [hz]); omega) (fun m => n10 z m hz), T.get_set, if_neg (fun e : z = b => n4 (e ▸ hz))]
    · rw [hK.2 zb (by have := hc zb (by simp); omega) n6, T.get_set, if_neg n1.symm]
    · exact (((Keep.refl (Nat.le_refl c)).set (nm := b) (.inr (by simp))).up (by omega)).call hK (fun z hz => .inr (by simp [hz])) |>.up (by omega)
  · have ea : x.at_ = x.place := by simp [Rw.at_, hd]
    have ex : x.next = { x with place := 0, list := moved x.list x.place } := by simp [Rw.next, hd]
    rw [ea, ex]
    refine e_1 Tryz.func208 rfl (H _ (by decide)) Tryz.ntmps208 (by decide) ?_
    intro env U
    refine sg 1 J (qA U J (nK (sg 1 J (qA U J (nK (rS (sg 5 J (qM U J (qN U J (qF U J fa169_3 (qL U rfl (by first | assumption | (simp only [gs, hb1]; rfl) | (simp [gs, hb1]; try rfl)) ((p3.1 _ _).trans rfl) ?_)))))))))))
    refine qB U J J J (nK (rF U rfl (by simp; omega) ?_))
    refine sg 5 J (qM U J (qN U J (qF U J fa169_4 (qL U rfl (by first | assumption | (simp only [gs, hb1]; rfl) | (simp [gs, hb1]; try rfl)) ((p3.1 _ _).trans rfl) ?_))))
    refine qA U J (nK (rg 4 J (qM U J (qN U J (qF U J fa169_4 (qW U rfl rfl (by first | assumption | (simp only [gs, hb1]; rfl) | (simp [gs, hb1]; try rfl)) p3 rfl rfl (by first | decide | (simp; done) | (simp; omega)) ?_))))))
    refine nK (sg 11 J ?_)
    have hb1 := hb
    refine qM U J (qN U J (qF U J fa169_2 (qL U rfl (by first | assumption | (simp only [gs, hb1]; rfl) | (simp [gs, hb1]; try rfl)) ((p167.1 _ _).trans rfl) ?_)))
    refine qM U J (qC U J (CR.mono (mtAt_cr H (i := x.place) (h4.move (g' := _) (fun z hz => (T.get_set _ _ _ _).trans (if_neg (by rcases hz with e | e; (exact e ▸ n2.symm); (exact fun q => n3 (q ▸ e)))))) ⟨by omega, fun z hz => by have := hla z hz; omega⟩ g3) ?_))
    rintro v ⟨hh1, cc1⟩ ⟨rfl, hM, hK⟩
    refine qM U J (qE U J J (qE U J J (qA U J (qA U J (nK (sg 2 J (qM U J (qA U J (nK (rR (f_1 U J (.inl J) J ?_)))))))))))
    have e1 : hh1.get b = some ⟨[ptr cb, ptr zb, ptr lb, nv x.due, nv 0], 169, 0⟩ := by rw [hK.2 b (by omega) n3, T.get_set, if_pos rfl]; rfl
    refine ⟨rfl, ⟨⟨g1, by dsimp only; rw [moved_len oA]; exact g2, by dsimp only; rw [moved_len oA]; omega, g4, g5⟩, cb, zb, lb, la, cW, e1, h2.move ?_, h3.move ?_, hM, rfl⟩, ?_⟩
    · intro z hz; rw [hK.2 z (by have := hc z (by simp [hz]); omega) (fun m => n10 z m hz), T.get_set, if_neg (fun e : z = b => n4 (e ▸ hz))]
    · rw [hK.2 zb (by have := hc zb (by simp); omega) n6, T.get_set, if_neg n1.symm]
    · exact (((Keep.refl (Nat.le_refl c)).set (nm := b) (.inr (by simp))).up (by omega)).call hK (fun z hz => .inr (by simp [hz])) |>.up (by omega)
omit H in
theorem Ze.put_err {z : Ze} {s e : Nat} (h : z.put s = .error e) : e = 2 := by
  simp only [Ze.put] at h
  repeat' split at h
  all_goals first | (cases h; done) | (cases h; rfl)
theorem rwTold_cr {h : Heap} {c b s zb due place : Nat} {z : Ze} {V1 V3 : Value} (hb : h.get b = some ⟨[V1, ptr zb, V3, nv due, nv place], 169, 0⟩) (hZ : ZeR z zb h.get) (hc : b < c ∧ zb < c) (hs : s ≤ z.n + 1) (hd : z.done = false) :
    CR Tryz.prog ov 227 [ptr b, nv s] ⟨h, c⟩ (fun v st => (match z.put s with
      | .ok (z', k, p) => v = nv 0 ∧ ZeR z' zb st.heap.get ∧ st.heap.get b = some ⟨[V1, ptr zb, V3, nv k, nv p], 169, 0⟩
      | .error e => v = nv 25) ∧ Keep [b, zb] h c st) := by
  have hbz : b ≠ zb := blk_ne hb hZ.2 (by dsimp only; decide)
  have hP := fun c' (q : c ≤ c') => zePut_cr H (c := c') hZ (by omega) hs hd
  cases hp : z.put s with
  | error e =>
    simp only [hp] at hP
    refine e_2 Tryz.func227 rfl (H _ (by decide)) Tryz.ntmps227 (by decide) ?_
    intro env U
    refine sg 1 J (qA U J (nK (sg 13 J (qM U J (qN U J (qF U J fa169_1 (qL U J aA ((p166.1 _ _).trans J) ?_)))))))
    refine qM U J (qC U J (CR.mono (hP _ oA) ?_))
    rintro v ⟨hh1, cc1⟩ ⟨rfl, hK⟩
    refine qM U J (qE U J J (qE U J J (qE U J J (qA U J (qA U J (qA U J (nK (rS (sg 2 J (qM U J (qB U J J J (nK (rT U J dA ?_)))))))))))))
    refine sg 1 J (qA U J (nK (rR (kR (f_1 U J (.inl J) J ?_)))))
    exact ⟨rfl, ((hK.base (by omega)).weak (by simp)).up (by omega)⟩
  | ok y =>
    obtain ⟨z', k, p⟩ := y
    simp only [hp] at hP
    refine e_2 Tryz.func227 rfl (H _ (by decide)) Tryz.ntmps227 (by decide) ?_
    intro env U
    refine sg 1 J (qA U J (nK (sg 13 J (qM U J (qN U J (qF U J fa169_1 (qL U J gA ((p166.1 _ _).trans J) ?_)))))))
    refine qM U J (qC U J (CR.mono (hP _ oA) ?_))
    rintro v ⟨hh1, cc1⟩ ⟨⟨rfl, hZ2⟩, hK⟩
    refine qM U J ?_
    have hb1 := (hK.2 b (by omega) (by simpa using hbz)).trans hb
    refine qE U J J (qE U J J (qE U J J (qA U J (qA U J (qA U J (nK (rS (sg 2 J (qM U J (qB U J J J (nK (rF U J dA ?_))))))))))))
    refine rK (kN (sg 5 J (qM U J (qM U J (qN U J (qF U J fa169_3 (qW U rfl rfl gA p3 rfl rfl (by first | decide | (simp; done) | (simp; omega)) ?_)))))))
    refine nK (sg 6 J (qM U J (qM U J (q_max U rfl rfl (m := (p : Int)) (by split <;> split at * <;> omega) ?_))))
    refine qN U J (qF U J fa169_4 (qW U rfl rfl gA p3 rfl rfl (by first | decide | (simp; done) | (simp; omega)) ?_))
    refine nK (sg 1 J (qA U J (nK (rR (f_1 U J (.inl J) J ?_)))))
    refine ⟨⟨rfl, hZ2.move ?_, ?_⟩, ((((hK.base oA).weak (W' := [b, zb]) (by simp)).set (nm := b) (.inr (by simp))).set (nm := b) (.inr (by simp))).up oA⟩
    · dsimp only; rw [T.get_set, if_neg hbz.symm, T.get_set, if_neg hbz.symm]
    · dsimp only; rw [T.get_set, if_pos rfl]; rfl
end
def Bl.good (b : Bl) : Prop := 5 ≤ b.room ∧ b.room ≤ 900000 ∧ b.from_ < 16777216 ∧ b.sum < 4294967296 ∧ (∀ x ∈ b.last, x < 256) ∧ (b.head = false → b.row = none) ∧ (b.row = none → b.last = []) ∧ ∀ x, b.row = some x → x.ze.most = b.room ∧ b.last.length + x.due + (if 0 < x.place then 1 else 0) = x.ze.told
def rowR (o : Option Rw) (rv : Value) (rW : List Nat) (g : Nat → Option Blk) : Prop := match o with
  | none => rv = .pointer none ∧ rW = []
  | some x => ∃ rb, rv = ptr rb ∧ RwR x rb rW g
def BlR (b : Bl) (p : Nat) (W : List Nat) (g : Nat → Option Blk) : Prop :=
  b.good ∧ ∃ (la : Option Addr) (cp : Nat) (rv : Value) (rW : List Nat), g p = some ⟨[rv, nv b.room, .bool b.head, .int .u32 b.sum, nv b.from_, .slice la b.last.length cp, .bool b.done, nv 0], 164, 0⟩ ∧ SlR 5 1 (b.last.map bv) la b.last.length cp g ∧ rowR b.row rv rW g ∧ (∀ z ∈ own la, z ∉ rW) ∧ W = p :: (own la ++ rW)
def BlPost (h : Heap) (c0 : Nat) (all : List Bool) (dr at_ r p : Nat) (W : List Nat) (b : Bl) (res : Except Nat (Bl × Nat)) (v : Value) (st : St) : Prop :=
  (match res with
    | .ok (b', n) => v = nv 0 ∧ BitR all dr (at_ + n) (st.heap.get r) ∧ ∃ W', BlR b' p W' st.heap.get ∧ ∀ z ∈ W', z ∈ W ∨ c0 ≤ z ∧ z < st.ctr
    | .error e => v = nv e ∧ e ≠ 0 ∧ (e = 3 → BitR all dr at_ (st.heap.get r) ∧ BlR b p W st.heap.get) ∧ (∃ B, st.heap.get p = some B ∧ B.cells.length = 8) ∧ ∃ k, at_ ≤ k ∧ BitR all dr k (st.heap.get r)) ∧ Keep (r :: W) h c0 st
theorem rowR.move {o : Option Rw} {rv : Value} {rW : List Nat} {g g' : Nat → Option Blk} (h : rowR o rv rW g) (hg : ∀ z ∈ rW, g' z = g z) : rowR o rv rW g' := by
  cases o with
  | none => exact h
  | some x => obtain ⟨rb, h1, h2⟩ := h; exact ⟨rb, h1, h2.move hg⟩
theorem rowR.kind {o : Option Rw} {rv : Value} {rW : List Nat} {g : Nat → Option Blk} (h : rowR o rv rW g) : ∀ z ∈ rW, ∃ B, g z = some B ∧ B.elem ∈ [169, 322, 305, 5, 214, 255, 328, 3, 323, 333] := by
  cases o with
  | none => obtain ⟨_, rfl⟩ := h; intro z hz; simp at hz
  | some x => obtain ⟨rb, h1, h2⟩ := h; exact h2.kind
theorem BlR.move {b : Bl} {p : Nat} {W : List Nat} {g g' : Nat → Option Blk} (h : BlR b p W g) (hg : ∀ z ∈ W, g' z = g z) : BlR b p W g' := by
  obtain ⟨h0, la, cp, rv, rW, h1, h2, h3, h4, rfl⟩ := h
  exact ⟨h0, la, cp, rv, rW, (hg p (by simp)).trans h1, h2.move (fun z hz => hg z (by simp [hz])), h3.move (fun z hz => hg z (by simp [hz])), h4, rfl⟩
theorem BlR.kind {b : Bl} {p : Nat} {W : List Nat} {g : Nat → Option Blk} (h : BlR b p W g) : ∀ z ∈ W, ∃ B, g z = some B ∧ B.elem ∈ [164, 169, 322, 305, 5, 214, 255, 328, 3, 323, 333] := by
  obtain ⟨h0, la, cp, rv, rW, h1, h2, h3, h4, rfl⟩ := h
  intro z hz
  simp only [List.mem_cons, List.mem_append] at hz
  rcases hz with rfl | hz | hz
  · exact ⟨_, h1, by simp⟩
  · obtain ⟨B, q1, q2⟩ := h2.kind z hz; exact ⟨B, q1, by rw [q2]; simp⟩
  · obtain ⟨B, q1, q2⟩ := h3.kind z hz; exact ⟨B, q1, List.mem_cons_of_mem _ q2⟩
theorem BlR.r_ne {b : Bl} {p : Nat} {W : List Nat} {g : Nat → Option Blk} {all : List Bool} {dr at_ r : Nat} (h : BlR b p W g) (hR : BitR all dr at_ (g r)) : r ∉ W := by
  obtain ⟨s, hs, _⟩ := hR; exact kind_ne h.kind hs (by dsimp only; decide)
theorem Asc.len {l : List Nat} (h : Asc l) : ∀ {a b : Nat}, (∀ x ∈ l, a ≤ x ∧ x < b) → l.length ≤ b - a := by
  induction l with
  | nil => intro a b _; simp
  | cons x l ih =>
    intro a b hx
    have h1 := hx x (by simp)
    have := ih h.2 (a := x + 1) (b := b) (fun y hy => ⟨h.1 y hy, (hx y (by simp [hy])).2⟩)
    simp only [List.length_cons]; omega
theorem usedR_ok {l : List Bool} {s : List Nat} {n : Nat} (h : usedR l = .ok (s, n)) : Asc s ∧ (∀ x ∈ s, x < 256) ∧ s ≠ [] ∧ s.length ≤ 256 ∧ 0 < n ∧ n ≤ l.length := by
  simp only [usedR] at h
  split at h
  · cases h
  · rename_i U
    split at h
    · cases h
    · rename_i s' n' hr
      split at h
      · cases h
      · rename_i hne
        simp only [Except.ok.injEq, Prod.mk.injEq] at h
        obtain ⟨rfl, rfl⟩ := h
        have hasc := rowsR_asc _ (idx_asc _ _) _ _ _ hr
        have hs256 : ∀ x ∈ s', x < 256 := fun x hx => by
          obtain ⟨i, h1, h2, h3⟩ := hasc.2 x hx
          have := idx_lt _ _ i h1; rw [List.length_take] at this; omega
        have hle := rowsR_le _ _ _ _ hr
        rw [List.length_drop] at hle
        exact ⟨hasc.1, hs256, hne, hasc.1.len (a := 0) (b := 256) (fun x hx => ⟨Nat.zero_le _, hs256 x hx⟩), by omega, by omega⟩
section
variable {ov : OvT} (H : OvH ov)
include H
theorem blNew_cr {h : Heap} {c room : Nat} (hr : 5 ≤ room ∧ room ≤ 900000) :
    CR Tryz.prog ov 152 [nv room] ⟨h, c⟩ (fun v st => ∃ p, v = .tuple #[ptr p, nv 0] ∧ BlR (Bl.new room) p [p] st.heap.get ∧ c ≤ p ∧ p < st.ctr ∧ Keep [] h c st) := by
  have h1 : decide ((room : Int) < 5) = false := by simp; omega
  refine e_1 Tryz.func152 rfl (H _ (by decide)) Tryz.ntmps152 (by decide) ?_
  intro env U
  refine sg 2 J (qA U J (qA U J (nK (rS (sg 6 J (qM U J (qB U J J J (qM U J (qG U J J J h1 (qM U J (qG U J J J h1 (qB U J J J (qQ U rfl rfl rfl (if_neg (by rw [h1]; decide)) ?_)))))))))))))
  refine nK (rF U J dA ?_)
  refine rK (kN (sg 5 J (qM U J (qU U rfl i164 z164 rfl (by simp [Program.built, Instr.fill, Tryz.underlying164, Value.cells]; rfl) ?_))))
  refine q_box U J (qA U J (qA U J (nK (rR (f_2 U J (.inl J) J J ?_)))))
  refine ⟨c + 8 + 2, rfl, ⟨⟨hr.1, hr.2, by dsimp only [Bl.new]; omega, by dsimp only [Bl.new]; omega, by simp [Bl.new], fun _ => rfl, fun _ => rfl, fun x hx => by cases hx⟩, none, 0, .pointer none, [], ?_, SlR.nil, ⟨rfl, rfl⟩, by simp, rfl⟩, by omega, by dsimp only; omega, ((Keep.refl (Nat.le_refl c)).set (.inl oA)).up oA⟩
  dsimp only; rw [T.get_set, if_pos rfl]; rfl
theorem blDone_cr {h : Heap} {c p : Nat} {b : Bl} {W : List Nat} (hP : BlR b p W h.get) :
    CR Tryz.prog ov 154 [ptr p] ⟨h, c⟩ (fun v st => v = .bool b.done ∧ Same h c st) := by
  obtain ⟨_, la, cp, rv, rW, hb, h2, h3, h4, rfl⟩ := id hP
  refine e_1 Tryz.func154 rfl (H _ (by decide)) Tryz.ntmps154 (by decide) ?_
  intro env U
  refine sg 1 J (qA U J (nK (sg 9 J (qM U J (qB U J J (nn119 _) (qM U J (qG U J J J J (qM U J (qG U J J J J (qN U J (qG U J J J J (qF U J fa164_6 (qG U J J J J (qL U J aA ((p4.1 _ _).trans J) ?_))))))))))))))
  refine qQ U J J J (if_pos J) (qA U J (nK (rR (f_1 U J (.inl J) J ?_))))
  exact ⟨rfl, rfl, by simp <;> omega⟩
theorem blBegin_cr {h : Heap} {c0 p r dr at_ : Nat} {all : List Bool} {b : Bl} {W : List Nat} (hP : BlR b p W h.get) (hR : BitR all dr at_ (h.get r)) (hc : r < c0 ∧ ∀ z ∈ W, z < c0) (hh : b.head = false) :
    CR Tryz.prog ov 205 [ptr p, ptr r] ⟨h, c0⟩ (fun v st => BlPost h c0 all dr at_ r p W b (b.go (all.drop at_)) v st) := by
  have hrW := hP.r_ne hR
  have hP0 := hP
  obtain ⟨⟨g1, g2, g3, g4, g5, g6, g7, g8⟩, la, cp, rv, rW, hb, hS, hrow, hdis, rfl⟩ := id hP
  have hrn := g6 hh
  have hln := g7 hrn
  have hla : own la = [] := hS.own0 (by rw [hln]; rfl)
  obtain ⟨hrv, hrW0⟩ : rv = .pointer none ∧ rW = [] := by rw [hrn] at hrow; exact hrow
  subst hrW0
  simp only [hla, List.append_nil, List.mem_singleton] at hrW hc hP0 ⊢
  have hpc := hc.2 p rfl
  have hln2 : (all.drop at_).length = all.length - at_ := List.length_drop
  simp only [Bl.go, hh, Bool.not_false, if_true]
  by_cases h57 : (all.drop at_).length < 57
  · rw [if_pos h57]
    refine e_2 Tryz.func205 rfl (H _ (by decide)) Tryz.ntmps205 (by decide) ?_
    intro env U
    refine sg 1 J (qA U J (nK (rS (sg 3 J (qM U J (qC U J (CR.mono (left_cr H hR oA) ?_)))))))
    rintro v ⟨hh1, cc1⟩ ⟨rfl, rfl, hk⟩
    try dsimp only at hk
    refine qB U J J J (nK (rT U rfl (by simp; omega) ?_))
    refine sg 1 J (qA U J (nK (rR (kR (f_1 U J (.inl J) J ?_)))))
    exact ⟨⟨rfl, by decide, fun _ => ⟨hR, hP0⟩, ⟨_, hb, rfl⟩, at_, Nat.le_refl _, hR⟩, Keep.refl (by omega)⟩
  · rw [if_neg h57]
    have e32 : ((all.drop at_).take 32).length = 32 := by rw [List.length_take]; omega
    have e24 : (((all.drop at_).drop 33).take 24).length = 24 := by rw [List.length_take, List.length_drop]; omega
    have l32 := num_lt ((all.drop at_).take 32); rw [e32] at l32
    have l24 := num_lt (((all.drop at_).drop 33).take 24); rw [e24] at l24
    have d33 : all.drop (at_ + 32 + 1) = (all.drop at_).drop 33 := by rw [List.drop_drop]
    have d32 : all.drop (at_ + 32) = (all.drop at_).drop 32 := by rw [List.drop_drop]
    obtain ⟨t, ht⟩ : ∃ t, all[at_ + 32]? = some t := ⟨_, List.getElem?_eq_getElem (by omega)⟩
    have hd1 := drop_cons ht
    have hbit : ((all.drop at_).drop 32).take 1 = [t] := by rw [← d32, hd1]; rfl
    have hnt : num [t] = t.toNat := by cases t <;> rfl
    rw [hbit]
    refine e_2 Tryz.func205 rfl (H _ (by decide)) Tryz.ntmps205 (by decide) ?_
    intro env U
    refine sg 1 J (qA U J (nK (rS (sg 3 J (qM U J (qC U J (CR.mono (left_cr H hR oA) ?_)))))))
    rintro v ⟨hh1, cc1⟩ ⟨rfl, rfl, hk⟩
    try dsimp only at hk
    refine qB U J J J (nK (rF U rfl (by simp; omega) ?_))
    refine rK (kN (sg 7 J (qM U J (qC U J (CR.mono (get_cr H hR oA oA oA (n := 32)) ?_)))))
    rintro v ⟨hh2, cc2⟩ ⟨rfl, hR1, hK1⟩
    refine qM U J ?_
    have hcc1 := hK1.1
    dsimp only at hcc1 hR1
    refine qE U J J (qE U J J (qA U J (qA U J (nK (sg 7 J (qM U J (qC U J (CR.mono (get_cr H hR1 oA oA oA (n := 1)) ?_))))))))
    rintro v ⟨hh3, cc3⟩ ⟨rfl, hR2, hK2⟩
    refine qM U J ?_
    have hcc2 := hK2.1
    dsimp only at hcc2 hR2
    refine qE U J J (qE U J J (qA U J (qA U J (nK (sg 7 J (qM U J (qC U J (CR.mono (get_cr H hR2 oA oA oA (n := 24)) ?_))))))))
    rintro v ⟨hh4, cc4⟩ ⟨rfl, hR3, hK3⟩
    refine qM U J ?_
    have hcc3 := hK3.1
    dsimp only at hcc3 hR3
    simp only [d33, d32, hbit, hnt]
    have hb3 := ((hK3.2 p (by omega) (by simpa using Ne.symm hrW)).trans ((hK2.2 p (by omega) (by simpa using Ne.symm hrW)).trans (hK1.2 p (by omega) (by simpa using Ne.symm hrW)))).trans hb
    refine qE U J J (qE U J J (qA U J (qA U J (nK (sg 4 J (qM U J (qN U J (qF U J fa164_2 (qW U rfl rfl gA p4 rfl rfl (by first | decide | (simp; done) | (simp; omega)) ?_)))))))))
    refine nK (sg 5 J (qM U J (qM U J (qN U J (qF U J fa164_3 (qW U rfl rfl gA p38 rfl rfl (by first | decide | (simp; done) | (simp; omega)) ?_))))))
    refine nK (sg 6 J (qM U J (qM U J (qH U J Tryz.underlying38 Tryz.underlying3 wA ?_))))
    refine qN U J (qF U J fa164_4 (qW U rfl rfl gA p3 rfl rfl (by first | decide | (simp; done) | (simp; omega)) ?_))
    refine nK (rS (sg 2 J (qM U J (qB U J J J (nK ?_)))))
    refine rC U rfl (fun hbt => ?_) (fun hbt => ?_)
    · try simp only [dz, dy] at hbt
      refine sg 1 J (qA U J (nK (rR (kR (f_1 U J (.inl J) J ?_)))))
      have htt : t = true := by cases t with | true => rfl | false => (simp at hbt)
      subst htt
      rw [if_pos rfl]
      have kk := (((hK1.base (c0 := c0) (by omega)).up (c3 := cc2 + 7) (by omega)).call hK2 (fun x hx => .inr hx)).up (c3 := cc3 + 7) (by omega) |>.call hK3 (fun x hx => .inr hx) |>.weak (W' := [r, p]) (by simp)
      have kf := fun B1 B2 B3 => ((((kk.set (nm := p) (B := B1) (.inr (by simp))).set (nm := p) (B := B2) (.inr (by simp))).set (nm := p) (B := B3) (.inr (by simp))).up (c3 := cc4 + 4 + 5 + 6 + 2 + 1) (by omega))
      exact ⟨⟨rfl, by decide, fun q => absurd q (by decide), ⟨_, (T.get_set _ _ _ _).trans (if_pos rfl), rfl⟩, _, Nat.le_add_right _ (32 + 1 + 24), hR3.move (by dsimp only; rw [T.get_set, if_neg hrW, T.get_set, if_neg hrW, T.get_set, if_neg hrW])⟩, kf _ _ _⟩
    · try simp only [dz, dy] at hbt
      refine rK (kN (sg 1 J (qA U J (nK (rR (f_1 U J (.inl J) J ?_))))))
      have htt : t = false := by cases t with | false => rfl | true => (simp at hbt)
      subst htt
      rw [if_neg (by simp)]
      have kk := (((hK1.base (c0 := c0) (by omega)).up (c3 := cc2 + 7) (by omega)).call hK2 (fun x hx => .inr hx)).up (c3 := cc3 + 7) (by omega) |>.call hK3 (fun x hx => .inr hx) |>.weak (W' := [r, p]) (by simp)
      have kf := fun B1 B2 B3 => ((((kk.set (nm := p) (B := B1) (.inr (by simp))).set (nm := p) (B := B2) (.inr (by simp))).set (nm := p) (B := B3) (.inr (by simp))).up (c3 := cc4 + 4 + 5 + 6 + 2 + 1) (by omega))
      refine ⟨⟨rfl, hR3.move ?_, [p], ⟨⟨g1, g2, by dsimp only; omega, by dsimp only; omega, g5, fun q => absurd (show true = false from q) (by decide), g7, g8⟩, la, cp, .pointer none, [], ?_, hS.move (by simp [hla]), by rw [hrn]; exact ⟨rfl, rfl⟩, by simp, by simp [hla]⟩, fun z hz => .inl hz⟩, kf _ _ _⟩
      · dsimp only; rw [T.get_set, if_neg hrW, T.get_set, if_neg hrW, T.get_set, if_neg hrW]
      · dsimp only; rw [T.get_set, if_pos rfl, hrv]; rfl
end
theorem Co.step_ok {c c' : Co} {l : List Bool} {n : Nat} {o : Option Nat} (h : c.step l = .ok (c', o, n)) : c'.size = c.size ∧ match o with | none => c'.done = c.done ∧ c'.out = c.out | some s => c'.done = (s + 1 == c.size) ∧ c'.out = c.out ++ [s] := by
  rw [Co.step_eq] at h
  split at h
  · cases hs : c.pk.step l with
    | error e => rw [hs] at h; cases h
    | ok y => rw [hs] at h; cases h; exact ⟨rfl, rfl, rfl⟩
  · split at h
    · simp only [Co.tab] at h
      repeat' split at h
      all_goals first | (cases h; done) | (cases h; exact ⟨rfl, rfl, rfl⟩)
    · simp only [Co.sym] at h
      split at h
      · cases h
      · cases hs : getC (c.tabs.getD (c.pk.picks.getD (c.out.length / 50) 0) []) 1 0 l with
        | error e => rw [hs] at h; cases h
        | ok y => rw [hs] at h; cases h; exact ⟨rfl, rfl, rfl⟩
theorem Ze.put_ok {z z' : Ze} {s k p : Nat} (hn : 1 ≤ z.n) (hs : s ≤ z.n + 1) (hd : z.done = false) (h : z.put s = .ok (z', k, p)) : z'.n = z.n ∧ z'.most = z.most ∧ z'.done = (s + 1 == z.n + 2) ∧ p < z.n ∧ k ≤ z.zeros ∧ z.told + k + (if 0 < p then 1 else 0) = z'.told := by
  simp only [Ze.put] at h
  split at h
  · split at h
    · cases h
    · cases h; refine ⟨rfl, rfl, ?_, by omega, Nat.zero_le _, by simp⟩; dsimp only; rw [hd]; symm; simp; omega
  · split at h
    · rename_i h1 h2; cases h; exact ⟨rfl, rfl, by simp [h2], by omega, Nat.le_refl _, by simp⟩
    · split at h
      · cases h
      · rename_i h1 h2 h3; cases h; refine ⟨rfl, rfl, ?_, by omega, Nat.le_refl _, by dsimp only; rw [if_pos (by omega)]⟩; dsimp only; rw [hd]; symm; simp; omega
section
variable {ov : OvT} (H : OvH ov)
include H
theorem blSymbols_cr {h : Heap} {c0 p r dr at_ : Nat} {all : List Bool} {b : Bl} {W : List Nat} (hP : BlR b p W h.get) (hR : BitR all dr at_ (h.get r)) (hc : r < c0 ∧ ∀ z ∈ W, z < c0) (hh : b.head = true) (hrn : b.row = none) :
    CR Tryz.prog ov 206 [ptr p, ptr r] ⟨h, c0⟩ (fun v st => BlPost h c0 all dr at_ r p W b (b.go (all.drop at_)) v st) := by
  have hrW := hP.r_ne hR
  have hP0 := hP
  obtain ⟨⟨g1, g2, g3, g4, g5, g6, g7, g8⟩, la, cp, rv, rW, hb, hS, hrow, hdis, rfl⟩ := id hP
  have hln := g7 hrn
  have hla : own la = [] := hS.own0 (by rw [hln]; rfl)
  obtain ⟨hrv, hrW0⟩ : rv = .pointer none ∧ rW = [] := by rw [hrn] at hrow; exact hrow
  subst hrW0
  rw [hh] at hb
  simp only [hla, List.append_nil, List.mem_singleton] at hrW hc hP0 ⊢
  have hpc := hc.2 p rfl
  simp only [Bl.go, hh, Bool.not_true, Bool.false_eq_true, if_false, hrn]
  have hU := fun c' (q : c0 ≤ c') => usedRead_cr H (c := c') hR (by omega)
  cases hu : usedR (all.drop at_) with
  | error e =>
    have he := usedR_err hu
    simp only [hu] at hU
    refine e_2 Tryz.func206 rfl (H _ (by decide)) Tryz.ntmps206 (by decide) ?_
    intro env U
    refine sg 1 J (qA U J (nK (sg 7 J (qM U J (qC U J (CR.mono (hU _ oA) ?_))))))
    rintro v ⟨hh1, cc1⟩ ⟨⟨rfl, hR1⟩, hK1⟩
    refine qM U J (qE U J J (qE U J J (qA U J (qA U J (nK (rS (sg 2 J (qM U J (qB U J J J (nK (rF U rfl (by simp; omega) ?_)))))))))))
    refine rK (kN (sg 2 J (qM U J (qA U J (nK (rR (f_1 U J (.inl J) J ?_)))))))
    exact ⟨⟨rfl, by omega, fun _ => ⟨hR1, hP0.move (fun z hz => by simp only [List.mem_singleton] at hz; subst hz; exact hK1.2 z (by omega) (by simpa using Ne.symm hrW))⟩, ⟨_, (hK1.2 p (by omega) (by simpa using Ne.symm hrW)).trans hb, rfl⟩, at_, Nat.le_refl _, hR1⟩, ((hK1.base (by omega)).weak (by simp)).up (by omega)⟩
  | ok y =>
    obtain ⟨s, n⟩ := y
    obtain ⟨u1, u2, u3, u4, u5, u6⟩ := usedR_ok hu
    simp only [hu] at hU
    refine e_2 Tryz.func206 rfl (H _ (by decide)) Tryz.ntmps206 (by decide) ?_
    intro env U
    refine sg 1 J (qA U J (nK (sg 7 J (qM U J (qC U J (CR.mono (hU _ oA) ?_))))))
    rintro v ⟨hh1, cc1⟩ ⟨⟨rfl, hR1⟩, hK1⟩
    refine qM U J (qE U J J (qE U J J (qA U J (qA U J (nK (rS (sg 2 J ?_)))))))
    have hcc1 := hK1.1
    dsimp only at hcc1 hR1
    have hb1 := (hK1.2 p (by omega) (by simpa using Ne.symm hrW)).trans hb
    refine qM U J (qB U J J J (nK (rT U J dA ?_)))
    refine rg 10 J (qM U J (qM U J (qM U J (qN U J (qF U J fa164_1 (qL U J gA ((p3.1 _ _).trans J) ?_))))))
    refine qC U J (CR.mono (rwNew_cr H u1 u2 u3 u4 g2) ?_)
    rintro v ⟨hh2, cc2⟩ ⟨rb, rW', rfl, hRw, hRwW, hK2⟩
    have hcc2 := hK2.1
    dsimp only at hcc2 hRw hRwW
    have hb2 := (hK2.2 p (by omega) (by simp)).trans hb1
    refine qN U J (qF U J fa164_0 (qW U rfl rfl gA p162 rfl rfl (by first | decide | (simp; done) | (simp; omega)) ?_))
    refine nK (sg 2 J (qM U J (qA U J (nK (rR (f_1 U J (.inl J) J ?_))))))
    have hrp : ∀ z ∈ rW', z ≠ p := fun z hz => by have := hRwW z hz; omega
    refine ⟨⟨rfl, hR1.move ?_, p :: rW', ⟨⟨g1, g2, g3, g4, g5, fun q => absurd (show true = false from q) (by decide), fun q => absurd q (by simp), ?_⟩, la, cp, ptr rb, rW', ?_, hS.move (by simp [hla]), ⟨rb, rfl, hRw.move (fun z hz => by dsimp only; rw [T.get_set, if_neg (hrp z hz)])⟩, by simp [hla], by simp [hla]⟩, ?_⟩, ?_⟩
    · dsimp only; rw [T.get_set, if_neg hrW]; exact hK2.2 r (by omega) (by simp)
    · intro x hx; cases hx; refine ⟨rfl, ?_⟩; rw [hln]; rfl
    · dsimp only; rw [T.get_set, if_pos rfl]; rfl
    · intro z hz; rcases List.mem_cons.mp hz with q | q
      · left; simp [q]
      · right; have := hRwW z q; dsimp only; omega
    · exact (((((hK1.base (c0 := c0) (by omega)).weak (W' := [r, p]) (by simp)).up (c3 := cc1 + 2 + 10) (by omega)).call hK2 (by simp)).set (nm := p) (.inr (by simp))).up (by omega)
theorem blEnd_cr {h : Heap} {c0 p : Nat} {b : Bl} {W : List Nat} (hP : BlR b p W h.get) (hc : ∀ z ∈ W, z < c0) :
    CR Tryz.prog ov 210 [ptr p] ⟨h, c0⟩ (fun v st => (match b.fin with
      | .ok b' => v = nv 0 ∧ BlR b' p W st.heap.get
      | .error e => v = nv e ∧ e = 23 ∧ ∃ B, st.heap.get p = some B ∧ B.cells.length = 8) ∧ Keep [p] h c0 st) := by
  have hP0 := hP
  obtain ⟨⟨g1, g2, g3, g4, g5, g6, g7, g8⟩, la, cp, rv, rW, hb, hS, hrow, hdis, rfl⟩ := id hP
  have hpc := hc p (by simp)
  cases hrw : b.row with
  | none =>
    rw [hrw] at hrow
    obtain ⟨rfl, rfl⟩ := hrow
    have hf : b.fin = .ok b := by simp only [Bl.fin, hrw]
    rw [hf]
    refine e_1 Tryz.func210 rfl (H _ (by decide)) Tryz.ntmps210 (by decide) ?_
    intro env U
    refine sg 1 J (qA U J (nK (rS (rB (sg 24 J (qM U J (qN U J (qF U J fa164_0 (qL U J aA ((p162.1 _ _).trans J) ?_)))))))))
    refine qB U J J nz162 (qM U J (qS U rfl rfl rfl rfl (by decide) ?_))
    refine qS U rfl rfl rfl rfl (by decide) ?_
    refine qS U rfl rfl rfl rfl (by decide) ?_
    refine qS U rfl rfl rfl rfl (by decide) ?_
    refine qS U rfl rfl rfl rfl (by decide) ?_
    refine qS U rfl rfl rfl rfl (by decide) ?_
    refine qS U rfl rfl rfl rfl (by decide) ?_
    refine q_skipW U rfl rfl rfl rfl (by decide) ?_
    refine qS U rfl rfl rfl rfl (by decide) ?_
    refine qQ U J J J (if_pos J) (qM U J (qS U rfl rfl rfl rfl (by decide) ?_))
    refine qS U rfl rfl rfl rfl (by decide) ?_
    refine qS U rfl rfl rfl rfl (by decide) ?_
    refine qS U rfl rfl rfl rfl (by decide) ?_
    refine q_skipW U rfl rfl rfl rfl (by decide) ?_
    refine qQ U J J J (if_pos J) (qA U J (nK (rT U J dA ?_)))
    refine sg 1 J (qA U J (nK (rR (k_bloR (kR (f_1 U J (.inl J) J ?_))))))
    exact ⟨⟨rfl, hP0⟩, Keep.refl (by omega)⟩
  | some x =>
    rw [hrw] at hrow
    obtain ⟨rb, rfl, hRw⟩ := hrow
    obtain ⟨_, cb, zb, lb, la', cW, hrb, h2, h3, h4, hrW⟩ := id hRw
    by_cases hcd : x.co.done = true
    · have hcn : (!x.co.done) = false := by simp [hcd]
      by_cases hw : x.waits = true
      · have hf : b.fin = .ok b := by simp only [Bl.fin, hrw]; rw [hcd, hw]; rfl
        rw [hf]
        refine e_1 Tryz.func210 rfl (H _ (by decide)) Tryz.ntmps210 (by decide) ?_
        intro env U
        refine sg 1 J (qA U J (nK (rS (rB (sg 24 J (qM U J (qN U J (qF U J fa164_0 (qL U J aA ((p162.1 _ _).trans J) ?_)))))))))
        refine qB U J J (nq162 _) (qM U J (qG U J J J J (qM U J (qG U J J J J (qN U J (qG U J J J J (qF U J fa164_0 (qG U J J J J (qL U J aA ((p162.1 _ _).trans J) ?_)))))))))
        refine qG U J J J J (qN U J (qG U J J J J (qF U J fa169_0 (qG U J J J J (qL U J aA ((p165.1 _ _).trans J) ?_)))))
        refine qG U J J J J (qC U J (CR.mono (coDone_cr H h2) ?_))
        rintro v ⟨hh1, cc1⟩ ⟨rfl, rfl, hk⟩
        try dsimp only at hk
        refine qG U J J J J (q_un U J J (qQ U J J J (J) (qM U J (qG U J J J hcn (qM U J (qG U J J J hcn (qN U J (qG U J J J hcn (qF U J fa164_0 (qG U J J J hcn (qL U J aA ((p162.1 _ _).trans J) ?_)))))))))))
        refine qG U J J J hcn (qC U J (CR.mono (rwWaits_cr H hRw) ?_))
        rintro v ⟨hh2, cc2⟩ ⟨rfl, rfl, hk⟩
        try dsimp only at hk
        refine qQ U rfl rfl rfl (if_neg (by rw [hcn]; decide)) ?_
        refine qA U J (nK (rT U rfl (by simp [hw]) ?_))
        refine sg 1 J (qA U J (nK (rR (k_bloR (kR (f_1 U J (.inl J) J ?_))))))
        exact ⟨⟨rfl, hP0⟩, Keep.refl (by omega)⟩
      · have hw' : x.waits = false := by simpa using hw
        by_cases hfr : b.last.length ≤ b.from_
        · have hf : b.fin = .error 23 := by simp only [Bl.fin, hrw]; rw [hcd, hw']; simp [hfr]
          rw [hf]
          refine e_1 Tryz.func210 rfl (H _ (by decide)) Tryz.ntmps210 (by decide) ?_
          intro env U
          refine sg 1 J (qA U J (nK (rS (rB (sg 24 J (qM U J (qN U J (qF U J fa164_0 (qL U J aA ((p162.1 _ _).trans J) ?_)))))))))
          refine qB U J J (nq162 _) (qM U J (qG U J J J J (qM U J (qG U J J J J (qN U J (qG U J J J J (qF U J fa164_0 (qG U J J J J (qL U J aA ((p162.1 _ _).trans J) ?_)))))))))
          refine qG U J J J J (qN U J (qG U J J J J (qF U J fa169_0 (qG U J J J J (qL U J aA ((p165.1 _ _).trans J) ?_)))))
          refine qG U J J J J (qC U J (CR.mono (coDone_cr H h2) ?_))
          rintro v ⟨hh1, cc1⟩ ⟨rfl, rfl, hk⟩
          try dsimp only at hk
          refine qG U J J J J (q_un U J J (qQ U J J J (J) (qM U J (qG U J J J hcn (qM U J (qG U J J J hcn (qN U J (qG U J J J hcn (qF U J fa164_0 (qG U J J J hcn (qL U J aA ((p162.1 _ _).trans J) ?_)))))))))))
          refine qG U J J J hcn (qC U J (CR.mono (rwWaits_cr H hRw) ?_))
          rintro v ⟨hh2, cc2⟩ ⟨rfl, rfl, hk⟩
          try dsimp only at hk
          refine qQ U rfl rfl rfl (if_neg (by rw [hcn]; decide)) ?_
          refine qA U J (nK (rF U rfl (by simp [hw', hcd]) ?_))
          refine rS (rD [] (by decide +kernel) (by decide +kernel) (n := 11) rfl ?_)
          refine qM U J (qN U J (qF U J fa164_4 (qL U J aA ((p3.1 _ _).trans J) ?_)))
          refine qM U J (qN U J (qF U J fa164_5 (qL U J aA ((p102.1 _ _).trans J) ?_)))
          refine q_lenL U J Tryz.underlying102 (qB U J J J (qA U J (ro_nild (kN (rT U rfl (by simp; omega) ?_)))))
          refine sg 1 J (qA U J (nK (rR (k_bloR (kR (f_1 U J (.inl J) J ?_))))))
          exact ⟨⟨rfl, rfl, _, hb, rfl⟩, Keep.refl (by omega)⟩
        · have hf : b.fin = .ok { b with done := true } := by simp only [Bl.fin, hrw]; rw [hcd, hw']; simp [hfr]
          rw [hf]
          have hpR : p ∉ rW := kind_ne hRw.kind hb (by dsimp only; decide)
          refine e_1 Tryz.func210 rfl (H _ (by decide)) Tryz.ntmps210 (by decide) ?_
          intro env U
          refine sg 1 J (qA U J (nK (rS (rB (sg 24 J (qM U J (qN U J (qF U J fa164_0 (qL U J aA ((p162.1 _ _).trans J) ?_)))))))))
          refine qB U J J (nq162 _) (qM U J (qG U J J J J (qM U J (qG U J J J J (qN U J (qG U J J J J (qF U J fa164_0 (qG U J J J J (qL U J aA ((p162.1 _ _).trans J) ?_)))))))))
          refine qG U J J J J (qN U J (qG U J J J J (qF U J fa169_0 (qG U J J J J (qL U J aA ((p165.1 _ _).trans J) ?_)))))
          refine qG U J J J J (qC U J (CR.mono (coDone_cr H h2) ?_))
          rintro v ⟨hh1, cc1⟩ ⟨rfl, rfl, hk⟩
          try dsimp only at hk
          refine qG U J J J J (q_un U J J (qQ U J J J (J) (qM U J (qG U J J J hcn (qM U J (qG U J J J hcn (qN U J (qG U J J J hcn (qF U J fa164_0 (qG U J J J hcn (qL U J aA ((p162.1 _ _).trans J) ?_)))))))))))
          refine qG U J J J hcn (qC U J (CR.mono (rwWaits_cr H hRw) ?_))
          rintro v ⟨hh2, cc2⟩ ⟨rfl, rfl, hk⟩
          try dsimp only at hk
          refine qQ U rfl rfl rfl (if_neg (by rw [hcn]; decide)) ?_
          refine qA U J (nK (rF U rfl (by simp [hw', hcd]) ?_))
          refine rS (rD [] (by decide +kernel) (by decide +kernel) (n := 11) rfl ?_)
          refine qM U J (qN U J (qF U J fa164_4 (qL U J aA ((p3.1 _ _).trans J) ?_)))
          refine qM U J (qN U J (qF U J fa164_5 (qL U J aA ((p102.1 _ _).trans J) ?_)))
          refine q_lenL U J Tryz.underlying102 (qB U J J J (qA U J (ro_nild (kN (rF U rfl (by simp; omega) ?_)))))
          refine rK (kO (kN (sg 4 J (qM U J (qN U J (qF U J fa164_6 (qW U rfl rfl aA p4 rfl rfl (by first | decide | (simp; done) | (simp; omega)) ?_)))))))
          refine nK (sg 1 J (qA U J (nK (rR (f_1 U J (.inl J) J ?_)))))
          refine ⟨⟨rfl, ⟨g1, g2, g3, g4, g5, g6, g7, g8⟩, la, cp, ptr rb, rW, ?_, hS.move ?_, ?_, hdis, rfl⟩, ((Keep.refl (Nat.le_refl c0)).set (nm := p) (.inr (by simp))).up oA⟩
          · dsimp only; rw [T.get_set, if_pos rfl]; rfl
          · intro z hz; dsimp only; rw [T.get_set, if_neg (fun e : z = p => own_ne hS hb (by dsimp only; decide) (e ▸ hz))]
          · dsimp only; rw [hrw]; exact ⟨rb, rfl, hRw.move (fun z hz => by rw [T.get_set, if_neg (fun e : z = p => hpR (e ▸ hz))])⟩
    · have hcd' : x.co.done = false := by simpa using hcd
      have hcn : (!x.co.done) = true := by simp [hcd']
      have hf : b.fin = .ok b := by simp only [Bl.fin, hrw]; rw [hcd']; rfl
      rw [hf]
      refine e_1 Tryz.func210 rfl (H _ (by decide)) Tryz.ntmps210 (by decide) ?_
      intro env U
      refine sg 1 J (qA U J (nK (rS (rB (sg 24 J (qM U J (qN U J (qF U J fa164_0 (qL U J aA ((p162.1 _ _).trans J) ?_)))))))))
      refine qB U J J (nq162 _) (qM U J (qG U J J J J (qM U J (qG U J J J J (qN U J (qG U J J J J (qF U J fa164_0 (qG U J J J J (qL U J aA ((p162.1 _ _).trans J) ?_)))))))))
      refine qG U J J J J (qN U J (qG U J J J J (qF U J fa169_0 (qG U J J J J (qL U J aA ((p165.1 _ _).trans J) ?_)))))
      refine qG U J J J J (qC U J (CR.mono (coDone_cr H h2) ?_))
      rintro v ⟨hh1, cc1⟩ ⟨rfl, rfl, hk⟩
      try dsimp only at hk
      refine qG U J J J J (q_un U J J (qQ U J J J (J) (qM U J (qS U rfl rfl rfl rfl (by rw [hcn]; decide) ?_))))
      refine qS U rfl rfl rfl rfl (by rw [hcn]; decide) ?_
      refine qS U rfl rfl rfl rfl (by rw [hcn]; decide) ?_
      refine qS U rfl rfl rfl rfl (by rw [hcn]; decide) ?_
      refine q_skipW U rfl rfl rfl rfl (by rw [hcn]; decide) ?_
      refine qQ U J J J (if_pos hcn) (qA U J (nK (rT U rfl (by simp [hcd']) ?_)))
      refine sg 1 J (qA U J (nK (rR (k_bloR (kR (f_1 U J (.inl J) J ?_))))))
      exact ⟨⟨rfl, hP0⟩, Keep.refl (by omega)⟩
end
theorem Co.step_err {c : Co} {l : List Bool} {e : Nat} (h : c.step l = .error e) : e = 3 ∨ e = 22 ∨ e = 25 := by
  rw [Co.step_eq] at h
  split at h
  · cases hs : c.pk.step l with
    | error e => rw [hs] at h; cases h; have := Pk.step_err hs; omega
    | ok y => rw [hs] at h; cases h
  · split at h
    · simp only [Co.tab] at h
      split at h
      · rename_i e' hs; cases h; have := De.step_err hs; omega
      · split at h
        · cases h
        · split at h <;> cases h; simp
    · exact Co.sym_err h
section
variable {ov : OvT} (H : OvH ov)
include H
theorem blSymbol_cr {h : Heap} {c0 p r dr at_ : Nat} {all : List Bool} {b : Bl} {W : List Nat} {x : Rw} (hP : BlR b p W h.get) (hR : BitR all dr at_ (h.get r)) (hc : r < c0 ∧ ∀ z ∈ W, z < c0) (hh : b.head = true) (hrx : b.row = some x) (hw : x.waits = false) (hcd : x.co.done = false) :
    CR Tryz.prog ov 209 [ptr p, ptr r] ⟨h, c0⟩ (fun v st => BlPost h c0 all dr at_ r p W b (b.go (all.drop at_)) v st) := by
  have hrW := hP.r_ne hR
  have hP0 := hP
  obtain ⟨⟨g1, g2, g3, g4, g5, g6, g7, g8⟩, la, cp, rv, rW, hb, hS, hrow, hdis, rfl⟩ := id hP
  rw [hrx] at hrow
  obtain ⟨rb, rfl, hRw⟩ := hrow
  obtain ⟨k1, k2⟩ := g8 x hrx
  obtain ⟨⟨q1, q2, q3, q4, q5⟩, cb, zb, lb, la', cW, hrb, hC, hZ, hM, rfl⟩ := id hRw
  obtain ⟨n1, n2, n3, n4, n5, n6, n7, n8, n9, n10⟩ := Rw.apart hrb rfl hC hZ hM
  have hpR : p ∉ rb :: zb :: lb :: (own la' ++ cW) := kind_ne hRw.kind hb (by dsimp only; decide)
  simp only [List.mem_cons, List.mem_append, not_or] at hrW hpR
  have hpc := hc.2 p (by simp)
  have hrbc := hc.2 rb (by simp)
  have hzbc := hc.2 zb (by simp)
  have hlap : p ∉ own la := own_ne hS hb (by dsimp only; decide)
  have hdw : x.due = 0 ∧ x.place = 0 := by simp [Rw.waits] at hw; exact hw
  have hsub : ∀ z, z ∈ r :: cW → z ∈ r :: p :: (own la ++ rb :: zb :: lb :: (own la' ++ cW)) := by
    intro z hz; simp only [List.mem_cons, List.mem_append] at hz ⊢; rcases hz with q | q <;> simp [q]
  have mk : ∀ (x' : Rw) (cW' : List Nat) (g' : Nat → Option Blk), x'.good → x'.list = x.list → x'.ze.most = b.room → b.last.length + x'.due + (if 0 < x'.place then 1 else 0) = x'.ze.told → g' rb = some ⟨[ptr cb, ptr zb, ptr lb, nv x'.due, nv x'.place], 169, 0⟩ → CoR x'.co cb cW' g' → ZeR x'.ze zb g' → (∀ z, z = p ∨ z ∈ own la ∨ z = lb ∨ z ∈ own la' → g' z = h.get z) → (∀ z ∈ cW', z ∈ cW ∨ c0 ≤ z) → BlR { b with row := some x' } p (p :: (own la ++ rb :: zb :: lb :: (own la' ++ cW'))) g' := by
    intro x' cW' g' w1 w2 w3 w4 w5 w6 w7 w8 w9
    refine ⟨⟨g1, g2, g3, g4, g5, fun q => absurd (hh.symm.trans q) (by decide), fun q => absurd q (by simp), fun y hy => by cases hy; exact ⟨w3, w4⟩⟩, la, cp, ptr rb, rb :: zb :: lb :: (own la' ++ cW'), (w8 p (.inl rfl)).trans hb, hS.move (fun z hz => w8 z (.inr (.inl hz))), ⟨rb, rfl, w1, cb, zb, lb, la', cW', w5, w6, w7, by rw [w2]; exact hM.move (fun z hz => w8 z (by rcases hz with q | q <;> simp [q])), rfl⟩, fun z hz hm => ?_, rfl⟩
    have hzc := hc.2 z (by simp [hz])
    refine hdis z hz ?_
    simp only [List.mem_cons, List.mem_append] at hm ⊢
    rcases hm with q | q | q | q | q
    · exact .inl q
    · exact .inr (.inl q)
    · exact .inr (.inr (.inl q))
    · exact .inr (.inr (.inr (.inl q)))
    · rcases w9 z q with q | q
      · exact .inr (.inr (.inr (.inr q)))
      · omega
  have hgo : b.go (all.drop at_) = (x.step (all.drop at_)).map fun p => ({ b with row := some p.1 }, p.2) := by simp only [Bl.go, hh, Bool.not_true, Bool.false_eq_true, if_false, hrx, hw]
  rw [hgo]; simp only [Rw.step]
  have hH := fun c' (q : c0 ≤ c') => coStep_cr H (c0 := c') hC hR ⟨by omega, fun z hz => by have := hc.2 z (by simp [hz]); omega⟩ hcd
  -- what a step of the code leaves
  have hfr : ∀ z, z = p ∨ z = rb ∨ z = zb ∨ z = lb ∨ z ∈ own la' ∨ z ∈ own la → z < c0 ∧ z ∉ r :: cW := by
    intro z hz
    refine ⟨hc.2 z (by simp only [List.mem_cons, List.mem_append]; rcases hz with q | q | q | q | q | q <;> simp [q]), ?_⟩
    simp only [List.mem_cons, not_or]
    rcases hz with q | q | q | q | q | q
    · subst q; exact ⟨Ne.symm hrW.1, hpR.2.2.2.2⟩
    · subst q; exact ⟨Ne.symm hrW.2.2.1, n4⟩
    · subst q; exact ⟨Ne.symm hrW.2.2.2.1, n7⟩
    · subst q; exact ⟨Ne.symm hrW.2.2.2.2.1, n9⟩
    · exact ⟨fun e => hrW.2.2.2.2.2.1 (e ▸ q), n10 z q⟩
    · exact ⟨fun e => hrW.2.1 (e ▸ q), fun m => hdis z q (by simp [m])⟩
  cases hs : x.co.step (all.drop at_) with
  | error e =>
    have he := Co.step_err hs
    have hne0 : ((e : Int) != 0) = true := by simp; omega
    simp only [hs, CoPost] at hH
    refine e_2 Tryz.func209 rfl (H _ (by decide)) Tryz.ntmps209 (by decide) ?_
    intro env U
    refine sg 1 J (qA U J (nK (sg 14 J (qM U J (qN U J (qF U J fa164_0 (qL U J aA ((p162.1 _ _).trans J) ?_)))))))
    refine qN U J (qF U J fa169_0 (qL U J aA ((p165.1 _ _).trans J) ?_))
    refine qM U J (qC U J (CR.mono (hH _ oA) ?_))
    rintro v ⟨hh1, cc1⟩ ⟨⟨rfl, he0, hsh, _, k, hk3, hR2⟩, hK⟩
    refine qM U J (qE U J J (qE U J J (qA U J (qA U J (nK (rS (sg 6 J (qM U J (qB U J J J (qM U J (qS U rfl rfl rfl rfl (by rw [hne0]; decide) ?_)))))))))))
    refine qS U rfl rfl rfl rfl (by rw [hne0]; decide) ?_
    refine qQ U J J J (if_pos hne0) (nK (rT U rfl (by rfl) ?_))
    refine sg 2 J (qM U J (qA U J (nK (rR (kR (f_1 U J (.inl J) J ?_))))))
    have e1 : ∀ z, z = p ∨ z = rb ∨ z = zb ∨ z = lb ∨ z ∈ own la' ∨ z ∈ own la → hh1.get z = h.get z := fun z hz => hK.2 z (by have := (hfr z hz).1; omega) (hfr z hz).2
    refine ⟨⟨rfl, he0, fun q => ⟨(hsh q).1, ?_⟩, ⟨_, (e1 p (.inl rfl)).trans hb, rfl⟩, k, hk3, hR2⟩, ((hK.base oA).weak hsub).up oA⟩
    have := mk x cW hh1.get ⟨q1, q2, q3, q4, q5⟩ rfl k1 k2 ((e1 rb (by simp)).trans hrb) (hsh q).2 (hZ.move (e1 zb (by simp))) (fun z hz => e1 z (by rcases hz with q | q | q | q <;> simp [q])) (fun z hz => .inl hz)
    have eb : ({ b with row := some x } : Bl) = b := by rw [← hrx]
    rw [eb] at this; exact this
  | ok y =>
    obtain ⟨c', so, n⟩ := y
    have hok := Co.step_ok hs
    simp only [hs, CoPost] at hH
    cases so with
    | none =>
      simp only at hok hH
      refine e_2 Tryz.func209 rfl (H _ (by decide)) Tryz.ntmps209 (by decide) ?_
      intro env U
      refine sg 1 J (qA U J (nK (sg 14 J (qM U J (qN U J (qF U J fa164_0 (qL U J aA ((p162.1 _ _).trans J) ?_)))))))
      refine qN U J (qF U J fa169_0 (qL U J aA ((p165.1 _ _).trans J) ?_))
      refine qM U J (qC U J (CR.mono (hH _ oA) ?_))
      rintro v ⟨hh1, cc1⟩ ⟨⟨rfl, hR2, cW', hC2, hO2⟩, hK⟩
      refine qM U J (qE U J J (qE U J J (qA U J (qA U J (nK (rS (sg 6 J (qM U J (qB U J J J (qM U J (qG U J J J J (qM U J (qG U J J J J (qB U J J J (qQ U J J J (J) (nK (rT U J dA ?_)))))))))))))))))
      refine sg 2 J (qM U J (qA U J (nK (rR (kR (f_1 U J (.inl J) J ?_))))))
      have e1 : ∀ z, z = p ∨ z = rb ∨ z = zb ∨ z = lb ∨ z ∈ own la' ∨ z ∈ own la → hh1.get z = h.get z := fun z hz => hK.2 z (by have := (hfr z hz).1; omega) (hfr z hz).2
      refine ⟨⟨rfl, hR2, _, mk { x with co := c' } cW' hh1.get ⟨q1.trans hok.1.symm, q2, q3, q4.trans hok.2.1.symm, q5⟩ rfl k1 k2 ((e1 rb (by simp)).trans hrb) hC2 (hZ.move (e1 zb (by simp))) (fun z hz => e1 z (by rcases hz with q | q | q | q <;> simp [q])) (fun z hz => (hO2 z hz).imp id (fun q => by have := q.1; omega)), ?_⟩, ((hK.base oA).weak hsub).up oA⟩
      intro z hz; simp only [List.mem_cons, List.mem_append] at hz ⊢
      rcases hz with q | q | q | q | q | q | q
      any_goals (left; simp [q]; done)
      rcases hO2 z q with q6 | q6
      · left; simp [q6]
      · right; dsimp only at *; omega
    | some s =>
      simp only at hok hH
      have hd0 : x.ze.done = false := q4.trans hcd
      have hT := fun (hh1 : Heap) (e1 : hh1.get rb = h.get rb) (e2 : hh1.get zb = h.get zb) (hs : s ≤ x.ze.n + 1) c' (q : c0 ≤ c') => rwTold_cr H (c := c') (e1.trans hrb) (hZ.move e2) ⟨by omega, by omega⟩ hs hd0
      have hss : ∀ {W' : List Nat} {g : Nat → Option Blk}, CoR c' cb W' g → s ≤ x.ze.n + 1 := by
        intro W' g hc'
        have := hc'.1.2.2.2.2.2.2.2.2 s (by rw [hok.2.2]; simp)
        rw [hok.1] at this; omega
      cases hp : x.ze.put s with
      | error e =>
        simp only [hp] at hT ⊢
        refine e_2 Tryz.func209 rfl (H _ (by decide)) Tryz.ntmps209 (by decide) ?_
        intro env U
        refine sg 1 J (qA U J (nK (sg 14 J (qM U J (qN U J (qF U J fa164_0 (qL U J aA ((p162.1 _ _).trans J) ?_)))))))
        refine qN U J (qF U J fa169_0 (qL U J aA ((p165.1 _ _).trans J) ?_))
        refine qM U J (qC U J (CR.mono (hH _ oA) ?_))
        rintro v ⟨hh1, cc1⟩ ⟨⟨rfl, hR2, cW', hC2, hO2⟩, hK⟩
        refine qM U J (qE U J J (qE U J J (qA U J (qA U J (nK (rS (sg 6 J (qM U J (qB U J J J (qM U J (qG U J J J J (qM U J (qG U J J J J (qB U J J J (qQ U J J J (J) (nK (rF U rfl (by simp) ?_)))))))))))))))))
        refine rK (kN (sg 7 J ?_))
        have e1 : ∀ z, z = p ∨ z = rb ∨ z = zb ∨ z = lb ∨ z ∈ own la' ∨ z ∈ own la → hh1.get z = h.get z := fun z hz => hK.2 z (by have := (hfr z hz).1; omega) (hfr z hz).2
        have hcc1 := hK.1
        dsimp only at hcc1 hO2
        have hb1 := (e1 p (.inl rfl)).trans hb
        refine qM U J (qN U J (qF U J fa164_0 (qL U J aA ((p162.1 _ _).trans J) ?_)))
        refine qM U J (qC U J (CR.mono (hT _ (e1 rb (by simp)) (e1 zb (by simp)) (hss hC2) _ oA) ?_))
        rintro v ⟨hh2, cc2⟩ ⟨rfl, hKT⟩
        refine qA U J (nK (rR (f_1 U J (.inl J) J ?_)))
        refine ⟨⟨rfl, by decide, fun q => absurd q (by decide), ⟨_, (hKT.2 p oA (by simp [hpR])).trans hb1, rfl⟩, _, Nat.le_add_right at_ n, hR2.move (hKT.2 r oA (by simp [hrW]))⟩, (((hK.base oA).weak hsub).up oA).call hKT ?_ |>.up oA⟩
        intro z hz; simp only [List.mem_cons, List.not_mem_nil, or_false] at hz; right; rcases hz with q | q <;> simp [q]
      | ok y =>
        obtain ⟨z', k, pl⟩ := y
        simp only [hp] at hT ⊢
        refine e_2 Tryz.func209 rfl (H _ (by decide)) Tryz.ntmps209 (by decide) ?_
        intro env U
        refine sg 1 J (qA U J (nK (sg 14 J (qM U J (qN U J (qF U J fa164_0 (qL U J aA ((p162.1 _ _).trans J) ?_)))))))
        refine qN U J (qF U J fa169_0 (qL U J aA ((p165.1 _ _).trans J) ?_))
        refine qM U J (qC U J (CR.mono (hH _ oA) ?_))
        rintro v ⟨hh1, cc1⟩ ⟨⟨rfl, hR2, cW', hC2, hO2⟩, hK⟩
        refine qM U J (qE U J J (qE U J J (qA U J (qA U J (nK (rS (sg 6 J (qM U J (qB U J J J (qM U J (qG U J J J J (qM U J (qG U J J J J (qB U J J J (qQ U J J J (J) (nK (rF U rfl (by simp) ?_)))))))))))))))))
        refine rK (kN (sg 7 J ?_))
        have e1 : ∀ z, z = p ∨ z = rb ∨ z = zb ∨ z = lb ∨ z ∈ own la' ∨ z ∈ own la → hh1.get z = h.get z := fun z hz => hK.2 z (by have := (hfr z hz).1; omega) (hfr z hz).2
        have hcc1 := hK.1
        dsimp only at hcc1 hO2
        have hb1 := (e1 p (.inl rfl)).trans hb
        refine qM U J (qN U J (qF U J fa164_0 (qL U J aA ((p162.1 _ _).trans J) ?_)))
        refine qM U J (qC U J (CR.mono (hT _ (e1 rb (by simp)) (e1 zb (by simp)) (hss hC2) _ oA) ?_))
        rintro v ⟨hh2, cc2⟩ ⟨⟨rfl, hZ3, hrb3⟩, hKT⟩
        refine qA U J (nK (rR (f_1 U J (.inl J) J ?_)))
        have hpo := Ze.put_ok hZ.1.1 (hss hC2) hd0 hp
        have hcc2 := hKT.1
        dsimp only at hcc2
        have e3 : ∀ z, z < cc1 → z ≠ rb → z ≠ zb → hh2.get z = hh1.get z := fun z h1 h2 h3 => hKT.2 z (by omega) (by simp [h2, h3])
        have hkin := hC2.kind
        have hC3 := hC2.move (g' := hh2.get) (fun z hz => e3 z (by rcases hO2 z hz with q | q; (have := hc.2 z (by simp [q]); omega); omega) (by rintro rfl; exact kind_ne hkin ((e1 _ (by simp)).trans hrb) (by dsimp only; decide) hz) (by rintro rfl; exact kind_ne hkin ((e1 _ (by simp)).trans hZ.2) (by dsimp only; decide) hz))
        refine ⟨⟨rfl, hR2.move (e3 r oA hrW.2.2.1 hrW.2.2.2.1), _, mk { x with co := c', ze := z', due := k, place := pl } cW' hh2.get ⟨by dsimp only; rw [hpo.1, hok.1]; exact q1, by dsimp only; rw [hpo.1]; exact q2, by dsimp only; rw [q2]; exact hpo.2.2.2.1, by dsimp only; rw [hpo.2.2.1, hok.2.1, q1], by have := hZ.1.2.2.1; have := hZ.1.2.2.2.1; dsimp only; omega⟩ rfl (by dsimp only; rw [hpo.2.1]; exact k1) (by dsimp only; rw [← hpo.2.2.2.2.2]; have := k2; rw [hdw.1, hdw.2] at this; simp only [Nat.lt_irrefl, if_false, Nat.add_zero] at this; omega) hrb3 hC3 hZ3 (fun z hz => (e3 z (by have := (hfr z (by rcases hz with q | q | q | q <;> simp [q])).1; omega) ?_ ?_).trans (e1 z (by rcases hz with q | q | q | q <;> simp [q]))) (fun z hz => (hO2 z hz).imp id (fun q => by have := q.1; omega)), ?_⟩, ((((hK.base oA).weak hsub).up oA).call hKT ?_).up oA⟩
        · skip
          rcases hz with q | q | q | q
          · subst q; exact hpR.1
          · rintro rfl; exact own_ne hS hrb (by dsimp only; decide) q
          · subst q; exact n2.symm
          · rintro rfl; exact n3 q
        · skip
          rcases hz with q | q | q | q
          · subst q; exact hpR.2.1
          · rintro rfl; exact own_ne hS hZ.2 (by dsimp only; decide) q
          · subst q; exact n5.symm
          · rintro rfl; exact n6 q
        · intro z hz; simp only [List.mem_cons, List.mem_append] at hz ⊢
          rcases hz with q | q | q | q | q | q | q
          any_goals (left; simp [q]; done)
          rcases hO2 z q with q6 | q6
          · left; simp [q6]
          · right; dsimp only at *; omega
        · intro z hz; simp only [List.mem_cons, List.not_mem_nil, or_false] at hz; right; rcases hz with q | q <;> simp [q]
end
end Go.Proofs.YtegjkhgaoabfcaaGreat
