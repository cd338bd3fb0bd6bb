/- Part 7 (a part of the proof of UnstreamSteps; no condition). -/
import Derived.Test.YtegjkhgaoabfcaaGreatWf
set_option linter.unusedSimpArgs false
set_option linter.unusedVariables false
set_option maxRecDepth 10000
namespace Go.Proofs.YtegjkhgaoabfcaaGreat
open Go.AE
theorem Bl.fin_err {b : Bl} {e : Nat} (h : b.fin = .error e) : e = 23 := by
  simp only [Bl.fin] at h
  repeat' split at h
  all_goals first | (cases h; done) | (cases h; rfl)
section
variable {ov : OvT} (H : OvH ov)
include H
theorem blTail {h h1 : Heap} {c0 c1 c2 p r dr at_ n : Nat} {all : List Bool} {b b1 : Bl} {W W1 : List Nat} (hR1 : BitR all dr (at_ + n) (h1.get r)) (hP1 : BlR b1 p W1 h1.get) (hW1 : ∀ z ∈ W1, z ∈ W ∨ c0 ≤ z ∧ z < c1) (hK : Keep (r :: W) h c0 ⟨h1, c1⟩) (hpW : p ∈ W) (hpr : r ≠ p) (hrc : r < c0) (hc : ∀ z ∈ W, z < c0) (hcc : c1 ≤ c2) {Q : Value → St → Prop}
    (k : ∀ v st, BlPost h c0 all dr at_ r p W b (b1.fin.map fun b => (b, n)) v st → Q v st) :
    CR Tryz.prog ov 210 [ptr p] ⟨h1, c2⟩ Q := by
  have hb1 := hK.1; dsimp only at hb1
  refine CR.mono (blEnd_cr H hP1 (fun z hz => by rcases hW1 z hz with q | q; (have := hc z q; omega); omega)) ?_
  rintro v ⟨h2, c3⟩ ⟨hv, hK2⟩
  have hcc3 := hK2.1; dsimp only at hcc3
  have hR2 := hR1.move (hK2.2 r (by omega) (by simpa using hpr))
  have hKK := (hK.up (c3 := c2) hcc).call hK2 (fun z hz => .inr (by simp only [List.mem_singleton] at hz; subst hz; simp [hpW]))
  refine k v _ ?_
  cases hf : b1.fin with
  | ok b2 =>
    simp only [hf] at hv ⊢
    obtain ⟨rfl, hB⟩ := hv
    exact ⟨⟨rfl, hR2, W1, hB, fun z hz => (hW1 z hz).imp id (fun q => by dsimp only; omega)⟩, hKK⟩
  | error e =>
    simp only [hf] at hv ⊢
    obtain ⟨rfl, rfl, hB⟩ := hv
    exact ⟨⟨rfl, by decide, fun q => absurd q (by decide), hB, _, Nat.le_add_right at_ n, hR2⟩, hKK⟩
omit H in
theorem BlPost.up {h : Heap} {c0 : Nat} {all : List Bool} {dr at_ r p : Nat} {W : List Nat} {b : Bl} {res : Except Nat (Bl × Nat)} {v : Value} {h1 : Heap} {c1 c2 : Nat} (hp : BlPost h c0 all dr at_ r p W b res v ⟨h1, c1⟩) (hc : c1 ≤ c2) : BlPost h c0 all dr at_ r p W b res v ⟨h1, c2⟩ := by
  obtain ⟨q, k⟩ := hp
  refine ⟨?_, k.up hc⟩
  cases res with
  | ok y => obtain ⟨b', n⟩ := y; obtain ⟨q1, q2, W', q3, q4⟩ := q; exact ⟨q1, q2, W', q3, fun z hz => (q4 z hz).imp id (fun q => by dsimp only at *; omega)⟩
  | error e => exact q
theorem blStep0_cr {h : Heap} {c0 p r dr at_ : Nat} {all : List Bool} {b : Bl} {W : List Nat} (hP : BlR b p W h.get) (hR : BitR all dr at_ (h.get r)) (hc : r < c0 ∧ ∀ z ∈ W, z < c0) (hcd : ∀ x, b.row = some x → x.waits = false → x.co.done = false) :
    CR Tryz.prog ov 184 [ptr p, ptr r] ⟨h, c0⟩ (fun v st => BlPost h c0 all dr at_ r p W b (b.step (all.drop at_)) v st) := by
  have hrW := hP.r_ne hR
  obtain ⟨_, la, cp, rv, rW, hb, hS, hrow, hdis, hWW⟩ := id hP
  have hpW : p ∈ W := by rw [hWW]; simp
  have hrp : r ≠ p := fun e => hrW (e ▸ hpW)
  have hpc := hc.2 p hpW
  simp only [Bl.step]
  cases hrx : b.row with
  | none =>
    rw [hrx] at hrow
    obtain ⟨rfl, rfl⟩ := hrow
    by_cases hh : b.head = true
    · have hhn : (!b.head) = false := by simp [hh]
      have hH := fun c' (q : c0 ≤ c') => blSymbols_cr H (c0 := c') hP hR ⟨by omega, fun z hz => by have := hc.2 z hz; omega⟩ hh hrx
      cases hg : b.go (all.drop at_) with
      | error e =>
        simp only [hg, BlPost] at hH
        refine e_2 Tryz.func184 rfl (H _ (by decide)) Tryz.ntmps184 (by decide) ?_
        intro env U
        refine sg 1 J (qA U J (nK (sg 1 J (qA U J (nK (rS (rB (sg 6 J (qM U J (qN U J (qF U J fa164_2 (qL U J aA ((p4.1 _ _).trans J) ?_))))))))))))
        refine q_un U J J (qA U J (nK (rF U rfl (by exact hhn) ?_)))
        refine sg 6 J (qM U J (qN U J (qF U J fa164_0 (qL U J aA ((p162.1 _ _).trans J) ?_))))
        refine qB U J J nz162 (qA U J (nK (rT U J dA ?_)))
        refine rg 4 J (qM U J (qM U J (qC U J (CR.mono (hH _ oA) ?_))))
        rintro v ⟨hh1, cc1⟩ ⟨⟨rfl, he0, hsh, hB, k, hk3, hR2⟩, hK⟩
        refine qA U J (rN (kO (kN (rS (sg 2 J (qM U J (qB U J J J (nK (rT U rfl (by simp; omega) ?_)))))))))
        refine sg 2 J (qM U J (qA U J (nK (rR (kR (f_1 U J (.inl J) J ?_))))))
        exact ⟨⟨rfl, he0, hsh, hB, k, hk3, hR2⟩, (hK.base (by omega)).up (by omega)⟩
      | ok y =>
        obtain ⟨b1, n⟩ := y
        simp only [hg, BlPost] at hH
        refine e_2 Tryz.func184 rfl (H _ (by decide)) Tryz.ntmps184 (by decide) ?_
        intro env U
        refine sg 1 J (qA U J (nK (sg 1 J (qA U J (nK (rS (rB (sg 6 J (qM U J (qN U J (qF U J fa164_2 (qL U J aA ((p4.1 _ _).trans J) ?_))))))))))))
        refine q_un U J J (qA U J (nK (rF U rfl (by exact hhn) ?_)))
        refine sg 6 J (qM U J (qN U J (qF U J fa164_0 (qL U J aA ((p162.1 _ _).trans J) ?_))))
        refine qB U J J nz162 (qA U J (nK (rT U J dA ?_)))
        refine rg 4 J (qM U J (qM U J (qC U J (CR.mono (hH _ oA) ?_))))
        rintro v ⟨hh1, cc1⟩ ⟨⟨rfl, hR2, W1, hP1, hW1⟩, hK⟩
        refine qA U J (rN (kO (kN (rS (sg 2 J (qM U J (qB U J J J (nK (rF U J dA ?_)))))))))
        refine rK (kN (sg 3 J (qM U J (qC U J (CR.mono (blTail H (b := b) hR2 hP1 (fun z hz => (hW1 z hz).imp id (fun q => ⟨by omega, q.2⟩)) (hK.base (c0 := c0) oA) hpW hrp hc.1 hc.2 oA (fun v st q => q)) ?_)))))
        rintro v ⟨hh2, cc2⟩ hq
        refine qA U J (nK (rR (f_1 U J (.inl J) J ?_)))
        exact hq
    · have hh' : b.head = false := by simpa using hh
      have hhn : (!b.head) = true := by simp [hh']
      have hH := fun c' (q : c0 ≤ c') => blBegin_cr H (c0 := c') hP hR ⟨by omega, fun z hz => by have := hc.2 z hz; omega⟩ hh'
      cases hg : b.go (all.drop at_) with
      | error e =>
        simp only [hg, BlPost] at hH
        refine e_2 Tryz.func184 rfl (H _ (by decide)) Tryz.ntmps184 (by decide) ?_
        intro env U
        refine sg 1 J (qA U J (nK (sg 1 J (qA U J (nK (rS (rB (sg 6 J (qM U J (qN U J (qF U J fa164_2 (qL U J aA ((p4.1 _ _).trans J) ?_))))))))))))
        refine q_un U J J (qA U J (nK (rT U rfl (by exact hhn) ?_)))
        refine rg 4 J (qM U J (qM U J (qC U J (CR.mono (hH _ oA) ?_))))
        rintro v ⟨hh1, cc1⟩ ⟨⟨rfl, he0, hsh, hB, k, hk3, hR2⟩, hK⟩
        refine qA U J (rN (kO (kN (rS (sg 2 J (qM U J (qB U J J J (nK (rT U rfl (by simp; omega) ?_)))))))))
        refine sg 2 J (qM U J (qA U J (nK (rR (kR (f_1 U J (.inl J) J ?_))))))
        exact ⟨⟨rfl, he0, hsh, hB, k, hk3, hR2⟩, (hK.base (by omega)).up (by omega)⟩
      | ok y =>
        obtain ⟨b1, n⟩ := y
        simp only [hg, BlPost] at hH
        refine e_2 Tryz.func184 rfl (H _ (by decide)) Tryz.ntmps184 (by decide) ?_
        intro env U
        refine sg 1 J (qA U J (nK (sg 1 J (qA U J (nK (rS (rB (sg 6 J (qM U J (qN U J (qF U J fa164_2 (qL U J aA ((p4.1 _ _).trans J) ?_))))))))))))
        refine q_un U J J (qA U J (nK (rT U rfl (by exact hhn) ?_)))
        refine rg 4 J (qM U J (qM U J (qC U J (CR.mono (hH _ oA) ?_))))
        rintro v ⟨hh1, cc1⟩ ⟨⟨rfl, hR2, W1, hP1, hW1⟩, hK⟩
        refine qA U J (rN (kO (kN (rS (sg 2 J (qM U J (qB U J J J (nK (rF U J dA ?_)))))))))
        refine rK (kN (sg 3 J (qM U J (qC U J (CR.mono (blTail H (b := b) hR2 hP1 (fun z hz => (hW1 z hz).imp id (fun q => ⟨by omega, q.2⟩)) (hK.base (c0 := c0) oA) hpW hrp hc.1 hc.2 oA (fun v st q => q)) ?_)))))
        rintro v ⟨hh2, cc2⟩ hq
        refine qA U J (nK (rR (f_1 U J (.inl J) J ?_)))
        exact hq
  | some x =>
    rw [hrx] at hrow
    obtain ⟨rb, rfl, hRw⟩ := hrow
    have hh : b.head = true := by
      by_cases hh : b.head = true
      · exact hh
      · have := hP.1.2.2.2.2.2.1 (by simpa using hh); rw [hrx] at this; cases this
    have hhn : (!b.head) = false := by simp [hh]
    by_cases hw : x.waits = true
    · have hpR : p ∉ rW := kind_ne hRw.kind hb (by dsimp only; decide)
      obtain ⟨⟨g1, g2, g3, g4, g5, g6, g7, g8⟩, _⟩ := id hP
      obtain ⟨k1, k2⟩ := g8 x hrx
      obtain ⟨⟨q1, q2, q3, q4, q5⟩, cb, zb, lb, la', cW, hrb, hC, hZ, hM, hrWW⟩ := id hRw
      have hat : x.at_ < x.list.length := by simp only [Rw.at_]; split <;> omega
      have hw2 : 0 < x.due ∨ 0 < x.place := by simp [Rw.waits] at hw; exact hw
      have hlst : b.last.length + 1 + x.next.due + (if 0 < x.next.place then 1 else 0) = x.next.ze.told ∧ x.next.ze.most = b.room := by
        by_cases hd : 0 < x.due
        · simp only [Rw.next, if_pos hd]; refine ⟨?_, k1⟩; rw [← k2]; split <;> omega
        · simp only [Rw.next, if_neg hd]; refine ⟨?_, k1⟩; rw [if_pos (by omega)] at k2; simp; omega
      have htm := hZ.1.2.2.2.1
      have hg : b.go (all.drop at_) = .ok ({ b with last := b.last ++ [x.list.getD x.at_ 0], row := some x.next }, 0) := by simp only [Bl.go, hh, Bool.not_true, Bool.false_eq_true, if_false, hrx, hw, if_true]
      rw [hg]
      have hWm : ∀ z, z = p ∨ z ∈ own la ∨ z ∈ rW → z ∈ W := by intro z hz; rw [hWW]; simp only [List.mem_cons, List.mem_append]; exact hz
      have hbo := own_ne hS hb (by dsimp only; decide)
      refine e_2 Tryz.func184 rfl (H _ (by decide)) Tryz.ntmps184 (by decide) ?_
      intro env U
      refine sg 1 J (qA U J (nK (sg 1 J (qA U J (nK (rS (rB (sg 6 J (qM U J (qN U J (qF U J fa164_2 (qL U J aA ((p4.1 _ _).trans J) ?_))))))))))))
      refine q_un U J J (qA U J (nK (rF U rfl (by exact hhn) ?_)))
      refine sg 6 J (qM U J (qN U J (qF U J fa164_0 (qL U J aA ((p162.1 _ _).trans J) ?_))))
      refine qB U J J (nq162 _) (qA U J (nK (rF U J dA ?_)))
      refine sg 6 J (qM U J (qN U J (qF U J fa164_0 (qL U J aA ((p162.1 _ _).trans J) ?_))))
      refine qC U J (CR.mono (rwWaits_cr H hRw) ?_)
      rintro v ⟨hh1, cc1⟩ ⟨rfl, rfl, hk⟩
      try dsimp only at hk
      refine qA U J (nK (rT U rfl (by exact hw) ?_))
      refine rD [(4, 10)] (by decide +kernel) (by decide +kernel) (n := 15) rfl ?_
      refine qM U J (qM U J (qN U J (qF U J fa164_5 (qL U J aA ((p102.1 _ _).trans J) ?_))))
      refine qM U J (qN U J (qF U J fa164_0 (qL U J aA ((p162.1 _ _).trans J) ?_)))
      refine qC U J (CR.mono (rwNext_cr H hRw (fun z hz => by have := hc.2 z (hWm z (by simp [hz])); omega)) ?_)
      rintro v ⟨hh2, cc2⟩ ⟨rfl, hRn, hKn⟩
      have hcc2 := hKn.1
      dsimp only at hcc2 hRn
      have hb2 := (hKn.2 p (by omega) hpR).trans hb
      have hS2 := hS.move (g' := hh2.get) (fun z hz => hKn.2 z (by have := hc.2 z (hWm z (by simp [hz])); omega) (hdis z hz))
      refine q1_ U J a102 J (qX U rfl rfl a102 a102 (hS2.move (fun z hz => by have := hc.2 z (hWm z (by simp [hz])); rw [T.get_set, if_neg oA])) ((T.get_set _ _ _ _).trans (if_pos rfl)) rfl oA oA ?_)
      intro a2 cp3 h4 hS4 hO4 hF4
      have hb4 := (hF4 p (by omega) hbo).trans ((T.get_set _ _ _ _).trans ((if_neg (by omega)).trans hb2))
      refine qN U J (qF U J fa164_5 (qW U rfl rfl aA p102 rfl rfl (by first | decide | (simp; done) | (simp; omega)) ?_))
      refine ro_nilp ?_ ?_
      · exact all1 (pair_load U rfl rfl rfl rfl ((heapAt_old rfl (by omega)).trans hb2) ((p102.1 _ _).trans rfl) rfl (same_slice _ _ _))
      refine kO (kN (rS (sg 2 J (qM U J (qB U J J J (nK (rF U J dA ?_)))))))
      refine rK (kN (sg 3 J ?_))
      generalize hfh : T.set h4 p _ = hf
      have hf2 : ∀ z, z < c0 → z ≠ p → z ∉ own la → hf.get z = hh2.get z := by
        intro z h1 h2 h3
        rw [← hfh, T.get_set, if_neg h2, hF4 z (by omega) h3, T.get_set, if_neg (by omega)]
      have hRf : BitR all dr (at_ + 0) (hf.get r) := hR.move ((hf2 r hc.1 hrp (fun m => hrW (hWm r (by simp [m])))).trans (hKn.2 r (by omega) (fun m => hrW (hWm r (by simp [m])))))
      have hO5 : ∀ z ∈ own a2, c0 ≤ z ∧ z < cc2 := fun z hz => by have := hO4 z hz; omega
      have hPf : BlR { b with last := b.last ++ [x.list.getD x.at_ 0], row := some x.next } p (p :: (own a2 ++ rW)) hf.get := by
        refine ⟨⟨g1, g2, g3, g4, ?_, fun q => absurd (hh.symm.trans q) (by decide), fun q => absurd q (by simp), fun y hy => ?_⟩, a2, cp3, ptr rb, rW, ?_, ?_, ⟨rb, rfl, hRn.move (fun z hz => hf2 z (hc.2 z (hWm z (by simp [hz]))) (fun e => hpR (e ▸ hz)) (fun m => hdis z m hz))⟩, fun z hz hm => ?_, rfl⟩
        · intro y hy; rcases List.mem_append.mp hy with q | q
          · exact g5 y q
          · simp only [List.mem_singleton] at q; subst q; rw [List.getD_eq_getElem?_getD, List.getElem?_eq_getElem hat]; exact hM.1 _ (List.getElem_mem hat)
        · cases hy; refine ⟨hlst.2, ?_⟩; rw [← hlst.1]; simp
        · rw [← hfh, T.get_set, if_pos rfl]; simp
        · rw [List.map_append, List.length_append]; exact hS4.move (fun z hz => by rw [← hfh, T.get_set, if_neg (by have := hO5 z hz; omega)])
        · have := hO5 z hz; have := hc.2 z (hWm z (by simp [hm])); omega
      have hKf : Keep (r :: W) h c0 ⟨hf, cc2⟩ := by
        rw [← hfh]
        have k1 := (hKn.base (c0 := c0) (by omega)).weak (W' := r :: W) (fun z hz => by simp [hWm z (by simp [hz])])
        exact (k1.app2 hF4 (fun z hz => .inr (by simp [hWm z (by simp [hz])])) (by omega) (by omega) (Nat.le_refl _)).set (nm := p) (.inr (by simp [hpW]))
      refine qM U J (qC U J (CR.mono (blTail H (b := b) hRf hPf (fun z hz => by simp only [List.mem_cons, List.mem_append] at hz; rcases hz with q | q | q; (left; rw [q]; exact hpW); (right; exact hO5 z q); (left; exact hWm z (by simp [q]))) hKf hpW hrp hc.1 hc.2 oA (fun v st q => q)) ?_))
      rintro v ⟨hh3, cc3⟩ hq
      refine qA U J (nK (rR (f_1 U J (.inl J) J ?_)))
      exact hq
    · have hw' : x.waits = false := by simpa using hw
      have hH := fun c' (q : c0 ≤ c') => blSymbol_cr H (c0 := c') hP hR ⟨by omega, fun z hz => by have := hc.2 z hz; omega⟩ hh hrx hw' (hcd x hrx hw')
      cases hg : b.go (all.drop at_) with
      | error e =>
        simp only [hg, BlPost] at hH
        refine e_2 Tryz.func184 rfl (H _ (by decide)) Tryz.ntmps184 (by decide) ?_
        intro env U
        refine sg 1 J (qA U J (nK (sg 1 J (qA U J (nK (rS (rB (sg 6 J (qM U J (qN U J (qF U J fa164_2 (qL U J aA ((p4.1 _ _).trans J) ?_))))))))))))
        refine q_un U J J (qA U J (nK (rF U rfl (by exact hhn) ?_)))
        refine sg 6 J (qM U J (qN U J (qF U J fa164_0 (qL U J aA ((p162.1 _ _).trans J) ?_))))
        refine qB U J J (nq162 _) (qA U J (nK (rF U J dA ?_)))
        refine sg 6 J (qM U J (qN U J (qF U J fa164_0 (qL U J aA ((p162.1 _ _).trans J) ?_))))
        refine qC U J (CR.mono (rwWaits_cr H hRw) ?_)
        rintro v ⟨hh1, cc1⟩ ⟨rfl, rfl, hk⟩
        try dsimp only at hk
        refine qA U J (nK (rF U rfl (by exact hw') ?_))
        refine rg 4 J (qM U J (qM U J (qC U J (CR.mono (hH _ oA) ?_))))
        rintro v ⟨hh2, cc2⟩ ⟨⟨rfl, he0, hsh, hB, k, hk3, hR2⟩, hK⟩
        refine qA U J (rN (kO (kN (rS (sg 2 J (qM U J (qB U J J J (nK (rT U rfl (by simp; omega) ?_)))))))))
        refine sg 2 J (qM U J (qA U J (nK (rR (kR (f_1 U J (.inl J) J ?_))))))
        exact ⟨⟨rfl, he0, hsh, hB, k, hk3, hR2⟩, (hK.base (by omega)).up (by omega)⟩
      | ok y =>
        obtain ⟨b1, n⟩ := y
        simp only [hg, BlPost] at hH
        refine e_2 Tryz.func184 rfl (H _ (by decide)) Tryz.ntmps184 (by decide) ?_
        intro env U
        refine sg 1 J (qA U J (nK (sg 1 J (qA U J (nK (rS (rB (sg 6 J (qM U J (qN U J (qF U J fa164_2 (qL U J aA ((p4.1 _ _).trans J) ?_))))))))))))
        refine q_un U J J (qA U J (nK (rF U rfl (by exact hhn) ?_)))
        refine sg 6 J (qM U J (qN U J (qF U J fa164_0 (qL U J aA ((p162.1 _ _).trans J) ?_))))
        refine qB U J J (nq162 _) (qA U J (nK (rF U J dA ?_)))
        refine sg 6 J (qM U J (qN U J (qF U J fa164_0 (qL U J aA ((p162.1 _ _).trans J) ?_))))
        refine qC U J (CR.mono (rwWaits_cr H hRw) ?_)
        rintro v ⟨hh1, cc1⟩ ⟨rfl, rfl, hk⟩
        try dsimp only at hk
        refine qA U J (nK (rF U rfl (by exact hw') ?_))
        refine rg 4 J (qM U J (qM U J (qC U J (CR.mono (hH _ oA) ?_))))
        rintro v ⟨hh2, cc2⟩ ⟨⟨rfl, hR2, W1, hP1, hW1⟩, hK⟩
        refine qA U J (rN (kO (kN (rS (sg 2 J (qM U J (qB U J J J (nK (rF U J dA ?_)))))))))
        refine rK (kN (sg 3 J (qM U J (qC U J (CR.mono (blTail H (b := b) hR2 hP1 (fun z hz => (hW1 z hz).imp id (fun q => ⟨by omega, q.2⟩)) (hK.base (c0 := c0) oA) hpW hrp hc.1 hc.2 oA (fun v st q => q)) ?_)))))
        rintro v ⟨hh2, cc2⟩ hq
        refine qA U J (nK (rR (f_1 U J (.inl J) J ?_)))
        exact hq
end
theorem T_same {h : Heap} {p : Nat} {B : Blk} (hb : h.get p = some B) (z : Nat) : (h.set p B).get z = h.get z := by
  rw [T.get_set]; split
  · rename_i e; rw [e, hb]
  · rfl
section
variable {ov : OvT} (H : OvH ov)
include H
theorem blStep_cr {h : Heap} {c0 p r dr at_ : Nat} {all : List Bool} {b : Bl} {W : List Nat} (hP : BlR b p W h.get) (hR : BitR all dr at_ (h.get r)) (hc : r < c0 ∧ ∀ z ∈ W, z < c0) (hcd : ∀ x, b.row = some x → x.waits = false → x.co.done = false) (hd : b.done = false) :
    CR Tryz.prog ov 153 [ptr p, ptr r] ⟨h, c0⟩ (fun v st => BlPost h c0 all dr at_ r p W b (b.step (all.drop at_)) v st) := by
  have hrW := hP.r_ne hR
  obtain ⟨_, la, cp, rv, rW, hb, hS, hrow, hdis, hWW⟩ := id hP
  have hpW : p ∈ W := by rw [hWW]; simp
  have hrp : r ≠ p := fun e => hrW (e ▸ hpW)
  have hpc := hc.2 p hpW
  rw [hd] at hb
  have hH := fun c' (q : c0 ≤ c') => blStep0_cr H (c0 := c') hP hR ⟨by omega, fun z hz => by have := hc.2 z hz; omega⟩ hcd
  cases hg : b.step (all.drop at_) with
  | error e =>
    simp only [hg, BlPost] at hH
    refine e_2 Tryz.func153 rfl (H _ (by decide)) Tryz.ntmps153 (by decide) ?_
    intro env U
    refine sg 1 J (qA U J (nK (rS (rB (sg 13 J (qM U J (qB U J J (nq119 _) (qM U J (qG U J J J J (qM U J (qG U J J J J (qB U J J (nq36 _) (qQ U J J J (J) (qM U J (qG U J J J J (qM U J (qG U J J J J (qN U J (qG U J J J J (qF U J fa164_6 ?_))))))))))))))))))))
    refine qG U J J J J (qL U J aA ((p4.1 _ _).trans J) ?_)
    refine qQ U J J J (J) (qA U J (nK (rF U J dA ?_)))
    refine sg 6 J (qM U J (qN U J (qF U J fa164_7 (qL U J aA ((p23.1 _ _).trans J) ?_))))
    refine qB U J J J (qA U J (nK (rF U J dA ?_)))
    refine rK (kO (kN (sg 4 J (qM U J (qM U J (qC U J (CR.mono (hH _ oA) ?_)))))))
    rintro v ⟨hh1, cc1⟩ ⟨⟨rfl, he0, hsh, ⟨B, hB, hBl⟩, k, hk3, hR2⟩, hK⟩
    refine qA U J (nK (rS (sg 2 J (qM U J (qB U J J J (nK ?_))))))
    refine rC U rfl (fun he => ?_) (fun he => ?_)
    · try simp only [dz, dy] at he
      refine rg 5 J (qM U J (qM U J (qN U J (qF U J fa164_7 (qW U J J aA p23 J J oA ?_)))))
      refine nK (sg 2 J (qM U J (qA U J (nK (rR (f_1 U J (.inl J) J ?_))))))
      refine ⟨⟨rfl, he0, fun q => absurd q oA, ⟨_, (T.get_set _ _ _ _).trans (if_pos rfl), by simp [hBl]⟩, k, hk3, hR2.move (by dsimp only; rw [T.get_set, if_neg hrp])⟩, ((hK.base (c0 := c0) oA).set (nm := p) (.inr (by simp [hpW]))).up oA⟩
    · try simp only [dz, dy] at he
      refine rK (kN (sg 2 J (qM U J (qA U J (nK (rR (f_1 U J (.inl J) J ?_)))))))
      exact ⟨⟨rfl, he0, hsh, ⟨B, hB, hBl⟩, k, hk3, hR2⟩, (hK.base (by omega)).up (by omega)⟩
  | ok y =>
    obtain ⟨b', n⟩ := y
    simp only [hg, BlPost] at hH
    refine e_2 Tryz.func153 rfl (H _ (by decide)) Tryz.ntmps153 (by decide) ?_
    intro env U
    refine sg 1 J (qA U J (nK (rS (rB (sg 13 J (qM U J (qB U J J (nq119 _) (qM U J (qG U J J J J (qM U J (qG U J J J J (qB U J J (nq36 _) (qQ U J J J (J) (qM U J (qG U J J J J (qM U J (qG U J J J J (qN U J (qG U J J J J (qF U J fa164_6 ?_))))))))))))))))))))
    refine qG U J J J J (qL U J aA ((p4.1 _ _).trans J) ?_)
    refine qQ U J J J (J) (qA U J (nK (rF U J dA ?_)))
    refine sg 6 J (qM U J (qN U J (qF U J fa164_7 (qL U J aA ((p23.1 _ _).trans J) ?_))))
    refine qB U J J J (qA U J (nK (rF U J dA ?_)))
    refine rK (kO (kN (sg 4 J (qM U J (qM U J (qC U J (CR.mono (hH _ oA) ?_)))))))
    rintro v ⟨hh1, cc1⟩ ⟨⟨rfl, hR2, W', hP2, hW2⟩, hK⟩
    obtain ⟨_, la2, cp2, rv2, rW2, hb2, _⟩ := id hP2
    refine qA U J (nK (rS (sg 2 J (qM U J (qB U J J J (nK (rT U J dA ?_)))))))
    refine rg 5 J (qM U J (qM U J (qN U J (qF U J fa164_7 (qW U rfl rfl aA p23 rfl rfl (by first | decide | (simp; done) | (simp; omega)) ?_)))))
    refine nK (sg 2 J (qM U J (qA U J (nK (rR (f_1 U J (.inl J) J ?_))))))
    have hsm := T_same hb2
    refine ⟨⟨rfl, hR2.move (by dsimp only; exact hsm r), W', hP2.move (fun z hz => by dsimp only; exact hsm z), fun z hz => (hW2 z hz).imp id (fun q => by dsimp only at *; omega)⟩, ((hK.base (c0 := c0) oA).set (nm := p) (.inr (by simp [hpW]))).up oA⟩
theorem blGot_cr {h : Heap} {c0 p : Nat} {b : Bl} {W : List Nat} (hP : BlR b p W h.get) (hc : ∀ z ∈ W, z < c0) (hd : b.done = true) :
    CR Tryz.prog ov 155 [ptr p] ⟨h, c0⟩ (fun v st => v = .agg #[.string (txt b.last), nv b.from_, .int .u32 b.sum] ∧ Keep [] h c0 st) := by
  have hP1 := hP.move (g' := (h.set c0 ⟨[.string ⟨#[]⟩, nv 0, .int .u32 0], 40, 0⟩).get) (fun z hz => by have := hc z hz; rw [T.get_set, if_neg (by omega)])
  obtain ⟨⟨g1, g2, g3, g4, g5, _⟩, la, cp, rv, rW, hb, hS, hrow, hdis, hWW⟩ := id hP1
  refine e_1 Tryz.func155 rfl (H _ (by decide)) Tryz.ntmps155 (by decide) ?_
  intro env U
  refine sg 1 J (qZ i40 z40 J (nK (rS (sg 3 J (qM U J (qC U J (CR.mono (blDone_cr H hP1) ?_)))))))
  rintro v ⟨hh1, cc1⟩ ⟨rfl, rfl, hk⟩
  try dsimp only at hk
  refine q_un U J J (nK (rF U rfl (by simp [hd]) ?_))
  refine rK (kN (rS (rD [] (by decide +kernel) (by decide +kernel) (n := 15) rfl ?_)))
  refine qM U J (qN U J (qF U J fa164_5 (qL U J gA ((p102.1 _ _).trans J) ?_)))
  refine qY U rfl Tryz.underlying102 Tryz.underlying9 Tryz.underlying5 (bs := b.last.map UInt8.ofNat) (by rw [txt_cells g5]; exact hS) ?_
  refine qM U J (qN U J (qF U J fa164_4 (qL U J gA ((p3.1 _ _).trans J) ?_)))
  refine qM U J (qN U J (qF U J fa164_3 (qL U J gA ((p38.1 _ _).trans J) ?_)))
  refine qU U rfl i40 z40 rfl (by simp [Program.built, Instr.fill, Tryz.underlying40, Value.cells]; rfl) ?_
  refine qV U rfl rfl gA p40 rfl rfl (by simp [Value.cells]) ?_
  refine ro_nild (kN (rR (f_c U J (.inl J) J  (T.get_set _ _ _ _ |>.trans (if_pos J)) ((p40.1 _ _).trans J) ?_)))
  refine ⟨rfl, (((Keep.refl (Nat.le_refl c0)).set (.inl oA)).set (.inl oA)).up oA⟩
end
def cntB (s : List Nat) (j b : Nat) : Nat := (idx ((s.map (· == b)).take j) 0).length
theorem cntB_succ {s : List Nat} {j x : Nat} (b : Nat) (h : s[j]? = some x) : cntB s (j + 1) b = if x = b then cntB s j b + 1 else cntB s j b := by
  simp only [cntB, those_take h]; split <;> simp
theorem cntB_all {s : List Nat} {j b : Nat} (h : s.length ≤ j) : cntB s j b = (those s b).length := by
  simp only [cntB, those]; rw [List.take_of_length_le (by simpa using h)]
theorem cntB_le (s : List Nat) (j b : Nat) : cntB s j b ≤ (those s b).length := by
  simp only [cntB, those]
  have := idx_append ((s.map (· == b)).take j) ((s.map (· == b)).drop j) 0
  rw [List.take_append_drop] at this; rw [this, List.length_append]; omega
theorem those_get_cnt {s : List Nat} {j x : Nat} (h : s[j]? = some x) : (those s x)[cntB s j x]? = some j := by
  have e : s.map (· == x) = (s.map (· == x)).take (j + 1) ++ (s.map (· == x)).drop (j + 1) := (List.take_append_drop _ _).symm
  simp only [those, cntB]
  rw [e, idx_append, ← e, those_take h, if_pos rfl, List.append_assoc, List.getElem?_append_right (by simp), Nat.sub_self]; simp
theorem fromC_all {s : List Nat} (h : ∀ x ∈ s, x < 256) : fromC s 256 = s.length := by
  have key : ∀ n, fromC s n = (s.filter (· < n)).length := by
    intro n
    induction n with
    | zero => have e0 : s.filter (fun x => decide (x < 0)) = [] := by rw [List.filter_eq_nil_iff]; simp
              rw [e0]; rfl
    | succ n ih =>
      have e : ∀ (a : List Nat) (k : Nat), (idx (a.map (· == n)) k).length + (a.filter (· < n)).length = (a.filter (· < n + 1)).length := by
        intro a
        induction a with
        | nil => intro k; rfl
        | cons x a ih2 =>
          intro k
          simp only [List.map_cons, List.filter_cons]
          have := ih2 (k + 1)
          by_cases q : x = n
          · subst q; simp [idx]; omega
          · have q1 : (x == n) = false := by simpa using q
            rw [q1]; simp only [idx]
            by_cases q2 : x < n
            · rw [if_pos (by simpa using q2), if_pos (by simp; omega)]; simp; omega
            · rw [if_neg (by simpa using q2), if_neg (by simp; omega)]; exact this
      have := e s 0
      simp only [fromC, those]; omega
  rw [key, List.filter_eq_self.mpr (fun x hx => by simpa using h x hx)]
theorem ordU_get {l : List Nat} {n k m : Nat} (hn : n < m) (hk : k < (those l n).length) : (ordU l m)[fromC l n + k]? = (those l n)[k]? := by
  induction m with
  | zero => omega
  | succ m ih =>
    rw [ordU_succ]
    by_cases q : n = m
    · subst q; rw [List.getElem?_append_right (by rw [ordU_len]; omega), ordU_len, Nat.add_sub_cancel_left]
    · have := ih (by omega)
      have U : fromC l n + k < (ordU l m).length := by
        rcases Nat.lt_or_ge (fromC l n + k) (ordU l m).length with q2 | q2
        · exact q2
        · rw [List.getElem?_eq_none q2, List.getElem?_eq_getElem hk] at this; cases this
      rw [List.getElem?_append_left U, this]
theorem fromC_split (l : List Nat) {m p : Nat} (h : p < fromC l m) : ∃ n k, n < m ∧ k < (those l n).length ∧ p = fromC l n + k := by
  induction m with
  | zero => simp [fromC] at h
  | succ m ih =>
    rcases Nat.lt_or_ge p (fromC l m) with q | q
    · obtain ⟨n, k, h1, h2, h3⟩ := ih q; exact ⟨n, k, by omega, h2, h3⟩
    · simp only [fromC] at h; exact ⟨m, p - fromC l m, by omega, by omega, by omega⟩
theorem ordU_lt {l : List Nat} {m x : Nat} (h : x ∈ ordU l m) : x < l.length := by
  simp only [ordU, List.mem_flatMap] at h; obtain ⟨n, _, h2⟩ := h; exact those_lt h2
def atI (L : List Nat) (o : Nat) : Nat → Nat
  | 0 => o
  | j + 1 => L.getD (atI L o j) 0
def outI (L s : List Nat) (o j : Nat) : List Nat := (List.range j).map fun i => s.getD (atI L o (i + 1)) 0
def unbw (s : List Nat) (o : Nat) : List Nat := outI (ordU s 256) s o s.length
structure Inv (s : List Nat) (o k : Nat) (N L : List Nat) (a : Nat) (out : List Nat) : Prop where
  nl : N.length = 256
  ll : L.length = s.length
  n0 : k < s.length → ∀ b, b < 256 → N.getD b 0 = cntB s k b
  n1 : s.length ≤ k → k < 2 * s.length → ∀ b, b < 256 → N.getD b 0 = fromC s b + cntB s (k - s.length) b
  l1 : s.length ≤ k → k ≤ 2 * s.length → ∀ b i, b < 256 → i < cntB s (k - s.length) b → L.getD (fromC s b + i) 0 = (those s b).getD i 0
  l2 : 2 * s.length ≤ k → L = ordU s 256
  at1 : k ≤ 2 * s.length → a = o ∧ out = []
  at2 : 2 * s.length ≤ k → a = atI L o (k - 2 * s.length) ∧ out = outI L s o (k - 2 * s.length)
theorem Inv.full {s L : List Nat} (h256 : ∀ x ∈ s, x < 256) (U : L.length = s.length) (h : ∀ b i, b < 256 → i < (those s b).length → L.getD (fromC s b + i) 0 = (those s b).getD i 0) : L = ordU s 256 := by
  have hle : (ordU s 256).length = s.length := by rw [ordU_len, fromC_all h256]
  apply List.ext_getElem?; intro p
  rcases Nat.lt_or_ge p s.length with q | q
  · obtain ⟨n, k, h1, h2, rfl⟩ := fromC_split s (m := 256) (p := p) (by rw [fromC_all h256]; exact q)
    have h3 := h n k h1 h2
    rw [ordU_get h1 h2]
    rw [List.getD_eq_getElem?_getD, List.getD_eq_getElem?_getD, List.getElem?_eq_getElem (by omega), List.getElem?_eq_getElem h2] at h3
    rw [List.getElem?_eq_getElem (by omega), List.getElem?_eq_getElem h2]; simpa using h3
  · rw [List.getElem?_eq_none (by omega), List.getElem?_eq_none (by omega)]
theorem atI_lt {s : List Nat} {o : Nat} (h256 : ∀ x ∈ s, x < 256) (ho : o < s.length) : ∀ j, atI (ordU s 256) o j < s.length
  | 0 => ho
  | j + 1 => by
    have ih := atI_lt h256 ho j
    have hle : (ordU s 256).length = s.length := by rw [ordU_len, fromC_all h256]
    simp only [atI]; rw [List.getD_eq_getElem?_getD, List.getElem?_eq_getElem (by omega)]
    exact ordU_lt (List.getElem_mem (by omega))
theorem outI_succ (L s : List Nat) (o j : Nat) : outI L s o (j + 1) = outI L s o j ++ [s.getD (atI L o (j + 1)) 0] := by simp [outI, List.range_succ]
theorem Inv.step0 {s N L out : List Nat} {o k a x : Nat} (h256 : ∀ x ∈ s, x < 256) (h : Inv s o k N L a out) (hk : k + 1 < s.length) (hx : s[k]? = some x) : Inv s o (k + 1) (N.set x (N.getD x 0 + 1)) L a out := by
  have hx2 := h256 x (List.mem_of_getElem? hx)
  refine ⟨by simp [h.nl], h.ll, fun _ b hb => ?_, fun q => by omega, fun q => by omega, fun q => by omega, fun _ => h.at1 oA, fun q => by omega⟩
  rw [getD_set (by rw [h.nl]; omega), cntB_succ b hx, h.n0 (by omega) b hb, h.n0 (by omega) x hx2]
  split
  · rename_i e; subst e; rfl
  · rfl
theorem cnt_sum {s M : List Nat} (hM : M.length = 256) (hc : ∀ b, b < 256 → M.getD b 0 = (those s b).length) : ∀ b, b ≤ 256 → (M.take b).sum = fromC s b := by
  intro b
  induction b with
  | zero => intro _; rfl
  | succ b ih =>
    intro hb
    have h1 := hc b (by omega)
    have hlt : b < M.length := by omega
    rw [List.take_add_one, List.getElem?_eq_getElem hlt, Option.toList_some, List.sum_append, ih (by omega)]
    rw [List.getD_eq_getElem?_getD, List.getElem?_eq_getElem hlt] at h1
    simp only [fromC, ← h1]; simp
theorem Inv.last {s N L out : List Nat} {o k a x : Nat} (h256 : ∀ x ∈ s, x < 256) (h : Inv s o k N L a out) (hk : k + 1 = s.length) (hx : s[k]? = some x) : ∀ b, b < 256 → (N.set x (N.getD x 0 + 1)).getD b 0 = (those s b).length := by
  have hx2 := h256 x (List.mem_of_getElem? hx)
  intro b hb
  rw [getD_set (by rw [h.nl]; omega), ← cntB_all (j := k + 1) (by omega), cntB_succ b hx, h.n0 (by omega) b hb, h.n0 (by omega) x hx2]
  split
  · rename_i e; subst e; rfl
  · rfl
theorem Inv.step0' {s N N' L out : List Nat} {o k a x : Nat} (h256 : ∀ x ∈ s, x < 256) (h : Inv s o k N L a out) (hk : k + 1 = s.length) (hx : s[k]? = some x) (hN : N'.length = 256) (hN' : ∀ b, b < 256 → N'.getD b 0 = ((N.set x (N.getD x 0 + 1)).take b).sum) : Inv s o (k + 1) N' L a out := by
  have hx2 := h256 x (List.mem_of_getElem? hx)
  have hc : ∀ b, b < 256 → (N.set x (N.getD x 0 + 1)).getD b 0 = (those s b).length := by
    intro b hb
    rw [getD_set (by rw [h.nl]; omega), ← cntB_all (j := k + 1) (by omega), cntB_succ b hx, h.n0 (by omega) b hb, h.n0 (by omega) x hx2]
    split
    · rename_i e; subst e; rfl
    · rfl
  have hs : ∀ b, b ≤ 256 → ((N.set x (N.getD x 0 + 1)).take b).sum = fromC s b := by
    intro b
    induction b with
    | zero => intro _; rfl
    | succ b ih =>
      intro hb
      have h1 := hc b (by omega)
      have hlt : b < (N.set x (N.getD x 0 + 1)).length := by rw [List.length_set, h.nl]; omega
      rw [List.take_add_one, List.getElem?_eq_getElem hlt, Option.toList_some, List.sum_append, ih (by omega)]
      rw [List.getD_eq_getElem?_getD, List.getElem?_eq_getElem hlt] at h1
      simp only [fromC, ← h1]; simp
  have h0 : s.length ≠ 0 := by omega
  refine ⟨hN, h.ll, fun q => by omega, fun q q2 b hb => ?_, fun q q2 b i hb hi => ?_, fun q => by omega, fun _ => h.at1 oA, fun q => by omega⟩
  · rw [hN' b hb, hs b (by omega), show k + 1 - s.length = 0 by omega]; simp [cntB, idx]
  · rw [show k + 1 - s.length = 0 by omega] at hi; simp [cntB, idx] at hi
theorem Inv.pos1 {s N L out : List Nat} {o k a x : Nat} (h256 : ∀ x ∈ s, x < 256) (h : Inv s o k N L a out) (hk : s.length ≤ k ∧ k < 2 * s.length) (hx : s[k - s.length]? = some x) : N.getD x 0 < s.length := by
  have hx2 := h256 x (List.mem_of_getElem? hx)
  have hNx := h.n1 hk.1 hk.2 x hx2
  have hth := those_get_cnt hx
  have hlt : cntB s (k - s.length) x < (those s x).length := by
    rcases Nat.lt_or_ge (cntB s (k - s.length) x) (those s x).length with q | q
    · exact q
    · rw [List.getElem?_eq_none q] at hth; cases hth
  have h1 := fromC_mono s (show x + 1 ≤ 256 by omega)
  rw [fromC_all h256] at h1; simp only [fromC] at h1; omega
theorem Inv.step1 {s N L out : List Nat} {o k a x : Nat} (h256 : ∀ x ∈ s, x < 256) (h : Inv s o k N L a out) (hk : s.length ≤ k ∧ k < 2 * s.length) (hx : s[k - s.length]? = some x) : Inv s o (k + 1) (N.set x (N.getD x 0 + 1)) (L.set (N.getD x 0) (k - s.length)) a out := by
  have hx2 := h256 x (List.mem_of_getElem? hx)
  have hNx := h.n1 hk.1 hk.2 x hx2
  have ej : k + 1 - s.length = k - s.length + 1 := by omega
  have hth := those_get_cnt hx
  have hlt : cntB s (k - s.length) x < (those s x).length := by
    rcases Nat.lt_or_ge (cntB s (k - s.length) x) (those s x).length with q | q
    · exact q
    · rw [List.getElem?_eq_none q] at hth; cases hth
  have hmono : ∀ {b c}, b < c → fromC s b + (those s b).length ≤ fromC s c := fun {b c} hbc => fromC_mono s (show b + 1 ≤ c by omega)
  have hpos : fromC s x + cntB s (k - s.length) x < s.length := by
    have h1 := hmono hx2; rw [fromC_all h256] at h1; omega
  have hl1 : ∀ b i, b < 256 → i < cntB s (k + 1 - s.length) b → (L.set (N.getD x 0) (k - s.length)).getD (fromC s b + i) 0 = (those s b).getD i 0 := by
    intro b i hb hi
    rw [ej, cntB_succ b hx] at hi
    rw [hNx, getD_set (by rw [h.ll]; exact hpos)]
    have hib : i < (those s b).length := by
      have := cntB_le s (k - s.length + 1) b; rw [cntB_succ b hx] at this; omega
    by_cases e : fromC s x + cntB s (k - s.length) x = fromC s b + i
    · rw [if_pos e]
      have hbx : x = b := by
        rcases Nat.lt_trichotomy x b with q | q | q
        · have := hmono q; omega
        · exact q
        · have := hmono q; omega
      subst hbx
      have hi2 : i = cntB s (k - s.length) x := by omega
      subst hi2
      rw [List.getD_eq_getElem?_getD, hth]; rfl
    · rw [if_neg e]
      refine h.l1 hk.1 oA b i hb ?_
      by_cases q : x = b
      · subst q; rw [if_pos rfl] at hi; omega
      · rw [if_neg q] at hi; exact hi
  refine ⟨by simp [h.nl], by simp [h.ll], fun q => by omega, fun _ _ b hb => ?_, fun _ _ => hl1, fun q => ?_, fun _ => h.at1 oA, fun q => ?_⟩
  · rw [getD_set (by rw [h.nl]; omega), ej, cntB_succ b hx, h.n1 hk.1 hk.2 b hb, hNx]
    split
    · rename_i e; subst e; omega
    · rfl
  · have e2 : k + 1 = 2 * s.length := by omega
    refine Inv.full h256 (by simp [h.ll]) (fun b i hb hi => hl1 b i hb ?_)
    rw [cntB_all (by omega)]; exact hi
  · have e2 : k + 1 - 2 * s.length = 0 := by omega
    rw [e2]; exact h.at1 (by omega)
theorem Inv.step2 {s N L out : List Nat} {o k a : Nat} (h : Inv s o k N L a out) (hk : 2 * s.length ≤ k) : Inv s o (k + 1) N L (L.getD a 0) (out ++ [s.getD (L.getD a 0) 0]) := by
  have h2 := h.at2 hk
  have e : k + 1 - 2 * s.length = (k - 2 * s.length) + 1 := by omega
  refine ⟨h.nl, h.ll, fun q => by omega, fun q => by omega, fun q q2 => by omega, fun q => h.l2 hk, fun q => by omega, fun q => ?_⟩
  rw [e, outI_succ, h2.2]; simp only [atI]; rw [← h2.1]; exact ⟨rfl, rfl⟩
theorem arrB_get {A B : List Value} {o : List Nat} {i : Nat} : (A ++ o.map nv ++ B)[A.length + o.length + i]? = B[i]? := by
  rw [List.getElem?_append_right (by simp <;> omega)]; congr 1; simp <;> omega
theorem arrB_set {A B : List Value} {o : List Nat} {i : Nat} {v : Value} : (A ++ o.map nv ++ B).set (A.length + o.length + i) v = A ++ o.map nv ++ B.set i v := by
  rw [List.set_append_right _ _ (by simp <;> omega)]; congr 2; simp <;> omega
theorem nv_get {l : List Nat} {i : Nat} (h : i < l.length) : (l.map nv)[i]? = some (nv (l.getD i 0)) := by
  rw [List.getElem?_map, List.getD_eq_getElem?_getD, List.getElem?_eq_getElem h]; rfl
theorem ivget {S : Value} {N : List Nat} {B : List Value} {j : Nat} (i : Nat) (hN : N.length = 256) (hj : j = 257 + i) : ([S] ++ N.map nv ++ B)[j]? = B[i]? := by
  subst hj; rw [show 257 + i = [S].length + N.length + i by simp [hN] <;> omega]; exact arrB_get
theorem ivset {S v : Value} {N : List Nat} {B : List Value} {j : Nat} (i : Nat) (hN : N.length = 256) (hj : j = 257 + i) : ([S] ++ N.map nv ++ B).set j v = [S] ++ N.map nv ++ B.set i v := by
  subst hj; rw [show 257 + i = [S].length + N.length + i by simp [hN] <;> omega]; exact arrB_set
theorem ivn_get {S : Value} {N : List Nat} {B : List Value} {x j : Nat} (hN : N.length = 256) (hx : x < 256) (hj : j = 1 + x) : ([S] ++ N.map nv ++ B)[j]? = some (nv (N.getD x 0)) := by
  subst hj; exact arr_get (A := [S]) (by omega)
theorem ivn_set {S : Value} {N : List Nat} {B : List Value} {x v j : Nat} (hN : N.length = 256) (hx : x < 256) (hj : j = 1 + x) : ([S] ++ N.map nv ++ B).set j (nv v) = [S] ++ (N.set x v).map nv ++ B := by
  subst hj; exact arr_set (A := [S]) (by omega)
def IvR (s : List Nat) (o k b : Nat) (lb : Nat) (oa : Option Addr) (g : Nat → Option Blk) : Prop :=
  ∃ (N L : List Nat) (a ocp : Nat) (out : List Nat), Inv s o k N L a out ∧ g b = some ⟨[.string (txt s)] ++ N.map nv ++ [.slice (some ⟨lb, 0, none⟩) s.length 1, nv a, .slice oa out.length ocp, nv k], 186, 0⟩ ∧ g lb = some ⟨L.map nv, 3, 1⟩ ∧ SlR 5 1 (out.map bv) oa out.length ocp g ∧ (∀ x ∈ out, x < 256) ∧ out.length ≤ k
section
variable {ov : OvT} (H : OvH ov)
include H
theorem ivBegins_cr {h : Heap} {c b e : Nat} {S : Value} {N : List Nat} {B : List Value} (hb : h.get b = some ⟨[S] ++ N.map nv ++ B, e, 0⟩) (hN : N.length = 256) (hbd : N.sum < 2 ^ 60) (hc : b < c) :
    CR Tryz.prog ov 197 [ptr b] ⟨h, c⟩ (fun v st => (∃ N' : List Nat, N'.length = 256 ∧ (∀ i, i < 256 → N'.getD i 0 = (N.take i).sum) ∧ st.heap.get b = some ⟨[S] ++ N'.map nv ++ B, e, 0⟩) ∧ Keep [b] h c st) := by
  have hagg : partA Tryz.prog 184 ([S] ++ N.map nv ++ B) (0 + 1) = some (.agg (N.map nv).toArray) := by
    rw [p184.1, if_pos (by simp [hN])]
    rw [show ([S] ++ N.map nv ++ B).drop (0 + 1) = N.map nv ++ B from rfl, List.take_append_of_le_length (by simp [hN]), List.take_of_length_le (by simp [hN])]
  have hle : ∀ i, (N.take i).sum ≤ N.sum := by
    intro i
    have := congrArg List.sum (List.take_append_drop i N); rw [List.sum_append] at this; omega
  refine e_1 Tryz.func197 rfl (H _ (by decide)) Tryz.ntmps197 (by decide) ?_
  intro env U
  refine sg 1 J (qA U J (nK (sg 5 J (qM U J (qN U J (qF U J fa186_1 (qL U J gA hagg ?_)))))))
  refine qM U J (nK (rB ?_))
  refine rL (fun m env' s' => ∃ j, m = 256 - j ∧ j ≤ 256 ∧ ∃ N' : List Nat, Hd 23 [(0, ptr b), (2, nv ((N.take j).sum)), (8, .agg (N.map nv).toArray), (9, nv j)] env' ∧ N'.length = 256 ∧ (∀ i, i < j → N'.getD i 0 = (N.take i).sum) ∧ s'.heap.get b = some ⟨[S] ++ N'.map nv ++ B, e, 0⟩ ∧ Keep [b] h c s') 256 ?_ ?_
  · exact ⟨0, rfl, by omega, N, Ho U ⟨rfl, rfl, rfl, rfl, trivial⟩, hN, fun i hi => by omega, hb, Keep.refl (by omega)⟩
  rintro m _ ⟨h2, c2⟩ ⟨j, rfl, hj, N', ⟨env, U, rfl⟩, hN', hNv, hb2, hK⟩
  dsimp only at hb2
  refine sg 1 J (qB U J J J (nK (rS ?_)))
  refine rC U rfl (fun hj2 => ?_) (fun hj2 => ?_)
  · try simp only [dz, dy] at hj2
    have hjn : j < N.length := by omega
    have htk : (N.take (j + 1)).sum = (N.take j).sum + N.getD j 0 := by rw [List.take_add_one, List.getElem?_eq_getElem hjn, Option.toList_some, List.sum_append, List.getD_eq_getElem?_getD, List.getElem?_eq_getElem hjn]; simp
    have h1 := hle (j + 1)
    refine rK (kN (rS (rB (sg 4 J (qM U J (q_index U rfl rfl (evIndexA Tryz.underlying184 p3 oA (by have := nv_get hjn; simpa using this)) (v := nv (N.getD j 0)) ?_))))))
    refine qA U J (qA U J (nK (sg 7 J (qM U J (qM U J (qM U J (qN U J (qF U J fa186_1 (q_indexAddrA U rfl rfl Tryz.underlying184 i3 s3 ⟨by omega, by omega⟩ ?_)))))))))
    refine qW U rfl rfl gA p3 rfl rfl (by simp [hN']; omega) ?_
    refine nK (rg 4 J (qM U J (qM U J (qP U rfl rfl (m := ((N.take (j + 1)).sum : Nat)) (by rw [wrapI oA oA, htk]; omega) ?_))))
    refine qA U J (rN (kO (kN (rg 2 J (qP U J J wA ?_)))))
    refine qM U J (nK ?_)
    refine ⟨256 - (j + 1), by omega, j + 1, rfl, by omega, N'.set j ((N.take j).sum), Ho U ⟨rfl, rfl, rfl, rfl, trivial⟩, by simp [hN'], fun i hi => ?_, ?_, (hK.up oA).set (.inr (by simp))⟩
    · rw [getD_set (by omega)]; split
      · rename_i e9; rw [e9]
      · exact hNv i (by omega)
    · dsimp only; rw [T.get_set, if_pos rfl]
      rw [show 0 + 1 + ((j : Nat) : Int).toNat * 1 = [S].length + j by simp <;> omega, arr_set (by omega)]
  · try simp only [dz, dy] at hj2
    refine r_exit (kE (kE (kB (f_0 J (.inr J) ?_))))
    have e9 : j = 256 := by omega
    subst e9
    exact ⟨⟨N', hN', hNv, hb2⟩, hK.up (by omega)⟩
theorem ivStep_cr {h : Heap} {c b lb o k : Nat} {s : List Nat} {oa : Option Addr} (hP : IvR s o k b lb oa h.get) (hc : b < c ∧ lb < c ∧ ∀ z ∈ own oa, z < c) (h256 : ∀ x ∈ s, x < 256) (hn : s.length ≤ 900000) (ho : o < s.length) (hk : k < 3 * s.length) :
    CR Tryz.prog ov 173 [ptr b] ⟨h, c⟩ (fun v st => (∃ oa', IvR s o (k + 1) b lb oa' st.heap.get ∧ ∀ z ∈ own oa', z ∈ own oa ∨ c ≤ z ∧ z < st.ctr) ∧ Keep (b :: lb :: own oa) h c st) := by
  obtain ⟨N, L, a, ocp, out, hI, hb, hL, hS, h0256, hok⟩ := id hP
  have hNl := hI.nl
  have hLl := hI.ll
  have hsz := txt_size s
  have hbl : b ≠ lb := blk_ne hb hL (by dsimp only; decide)
  have hbo := own_ne hS hb (by dsimp only; decide)
  have hlo := own_ne hS hL (by dsimp only; decide)
  have hqr : ∃ q i, k = s.length * q + i ∧ i < s.length ∧ q ≤ 2 ∧ k / s.length = q ∧ k % s.length = i := by
    refine ⟨k / s.length, k % s.length, (Nat.div_add_mod k s.length).symm, Nat.mod_lt _ oA, ?_, rfl, rfl⟩
    have := (Nat.div_lt_iff_lt_mul (show 0 < s.length by omega)).mpr hk; omega
  obtain ⟨q, i, hki, hi, hq2, e1, e2⟩ := hqr
  have e1' : (k : Int) / (s.length : Int) = (q : Int) := by rw [← e1]; simp
  have e2' : (k : Int) % (s.length : Int) = (i : Int) := by rw [← e2]; simp
  obtain ⟨x, hx⟩ : ∃ x, s[i]? = some x := ⟨_, List.getElem?_eq_getElem hi⟩
  have hx2 := h256 x (List.mem_of_getElem? hx)
  have hxn : (UInt8.ofNat x).toNat = x := by simp [UInt8.toNat_ofNat, Nat.mod_eq_of_lt hx2]
  have hti : (txt s)[((i : Nat) : Int).toNat]? = some (UInt8.ofNat x) := txt_get hx
  rcases (by omega : q = 0 ∨ q = 1 ∨ q = 2) with rfl | rfl | rfl
  · have hki2 : k = i := by omega
    subst hki2
    have hNx : N.getD x 0 ≤ 900000 := by rw [hI.n0 hi x hx2]; have := idx_le ((s.map (· == x)).take k) 0; rw [List.length_take, List.length_map] at this; simp only [cntB]; omega
    have hNl2 : (N.set x (N.getD x 0 + 1)).length = 256 := by simp [hNl]
    by_cases hk1 : k + 1 = s.length
    · have hM := hI.last h256 hk1 hx
      have hsm := cnt_sum hNl2 hM
      have hsumN : (N.set x (N.getD x 0 + 1)).sum < 2 ^ 60 := by
        have := hsm 256 (Nat.le_refl _); rw [List.take_of_length_le (by omega), fromC_all h256] at this; omega
      refine e_1 Tryz.func173 rfl (H _ (by decide)) Tryz.ntmps173 (by decide) ?_
      intro env U
      refine sg 6 J (qM U J (qN U J (qF U J fa186_0 (qL U rfl (by first | assumption | (simp only [gs, hb1]; rfl) | (simp [gs, hb1]; try rfl)) ((p9.1 _ _).trans rfl) ?_))))
      refine qK U J Tryz.underlying9 (qA U J (nK (sg 7 J ?_)))
      rw [hsz]
      refine qM U J (qN U J (qF U J fa186_5 (qL U rfl (by first | assumption | (simp only [gs, hb1]; rfl) | (simp [gs, hb1]; try rfl)) ((p3.1 _ _).trans (ivget 3 hNl rfl)) (v := nv k) ?_)))
      refine qM U J (q_rem U rfl rfl ⟨by omega, by omega⟩ ?_)
      refine qA U J (nK (rS (sg 6 J ?_)))
      simp only [e2']
      refine qM U J (qN U J (qF U J fa186_5 (qL U rfl (by first | assumption | (simp only [gs, hb1]; rfl) | (simp [gs, hb1]; try rfl)) ((p3.1 _ _).trans (ivget 3 hNl rfl)) (v := nv k) ?_)))
      refine qM U J (q_quo U rfl rfl ⟨by omega, by omega⟩ (by rw [e1']; exact wrapI oA oA) ?_)
      refine nK (rB (sg 2 J ?_))
      simp only [e1']
      refine qB U J J J (qA U J (nK (rT U rfl (by rfl) ?_)))
      refine rS (rD [] (by decide +kernel) (by decide +kernel) (n := 16) rfl ?_)
      refine qM U J (qM U J (qN U J (qF U J fa186_0 (qL U rfl (by first | assumption | (simp only [gs, hb1]; rfl) | (simp [gs, hb1]; try rfl)) ((p9.1 _ _).trans rfl) ?_))))
      refine qM U J (qJ U J J Tryz.underlying9 oA hti ?_)
      simp only [hxn]
      refine qN U J (qF U J fa186_1 (q_indexAddrA U rfl rfl Tryz.underlying184 i3 s3 ⟨by omega, by omega⟩ ?_))
      refine qL U rfl (by first | assumption | (simp only [gs, hb1]; rfl) | (simp [gs, hb1]; try rfl)) (by exact (p3.1 _ _).trans (ivn_get hNl hx2 oA)) (v := nv (N.getD x 0)) ?_
      refine qP U rfl rfl (m := ((N.getD x 0 + 1 : Nat) : Int)) (by rw [wrapI oA oA]; omega) ?_
      refine qN U J (qF U J fa186_1 (q_indexAddrA U rfl rfl Tryz.underlying184 i3 s3 ⟨by omega, by omega⟩ ?_))
      refine qW U rfl rfl (by first | assumption | (simp only [gs, hb1]; rfl) | (simp [gs, hb1]; try rfl)) p3 rfl rfl (by simp [hNl]; omega) ?_
      refine ro_nild (kN (sg 4 J ?_))
      have e69 : ([Value.string (txt s)] ++ N.map nv ++ [Value.slice (some ⟨lb, 0, none⟩) s.length 1, nv a, .slice oa out.length ocp, nv k]).set (0 + 1 + ((x : Nat) : Int).toNat * 1) (nv (N.getD x 0 + 1 : Nat)) = [Value.string (txt s)] ++ (N.set x (N.getD x 0 + 1)).map nv ++ [Value.slice (some ⟨lb, 0, none⟩) s.length 1, nv a, .slice oa out.length ocp, nv k] := ivn_set hNl hx2 (by omega)
      simp only [e69]
      refine qM U J (qM U J (q_sub U J J wA ?_))
      refine qB U J J J (nK (rT U rfl (by simp; omega) ?_))
      refine rg 2 J (qM U J (qC U J (CR.mono (ivBegins_cr H (S := .string (txt s)) (N := (N.set x (N.getD x 0 + 1))) (B := [Value.slice (some ⟨lb, 0, none⟩) s.length 1, nv a, .slice oa out.length ocp, nv k]) ((T.get_set _ _ _ _).trans (if_pos J)) hNl2 hsumN oA) ?_)))
      rintro v ⟨hh1, cc1⟩ ⟨⟨N', hN', hNv, hb1⟩, hKb⟩
      refine rN (kO (kN (rg 8 J ?_)))
      have hcc1 := hKb.1
      dsimp only at hcc1 hb1
      have hI2 := hI.step0' h256 hk1 hx hN' hNv
      refine qM U J (qN U J (qF U J fa186_5 (qL U rfl (by first | assumption | (simp only [gs, hb1]; rfl) | (simp [gs, hb1]; try rfl)) ((p3.1 _ _).trans (ivget 3 hN' rfl)) (v := nv k) ?_)))
      refine qP U J J wA ?_
      refine qN U J (qF U J fa186_5 (qW U rfl rfl (by first | assumption | (simp only [gs, hb1]; rfl) | (simp [gs, hb1]; try rfl)) p3 rfl rfl (by simp [hN']) ?_))
      refine rN (f_0 J (.inr J) ?_)
      have e9 : ([Value.string (txt s)] ++ N'.map nv ++ [Value.slice (some ⟨lb, 0, none⟩) s.length 1, nv a, .slice oa out.length ocp, nv k]).set (0 + 260) (nv (k + 1 : Nat)) = [Value.string (txt s)] ++ N'.map nv ++ [Value.slice (some ⟨lb, 0, none⟩) s.length 1, nv a, .slice oa out.length ocp, nv (k + 1 : Nat)] := ivset 3 hN' rfl
      refine ⟨⟨oa, ⟨N', L, a, ocp, out, hI2, ?_, ?_, hS.move ?_, h0256, by omega⟩, fun z hz => .inl hz⟩, ?_⟩
      · dsimp only; rw [T.get_set, if_pos rfl]; exact congrArg (fun l => some (Blk.mk l 186 0)) e9
      · dsimp only; rw [T.get_set, if_neg hbl.symm, hKb.2 lb (by omega) (by simpa using hbl.symm), T.get_set, if_neg hbl.symm]; exact hL
      · intro z hz; have hzb : z ≠ b := fun e => hbo (e ▸ hz)
        dsimp only; rw [T.get_set, if_neg hzb, hKb.2 z (by have := hc.2.2 z hz; omega) (by simpa using hzb), T.get_set, if_neg hzb]
      · have k1 := ((Keep.refl (W := b :: lb :: own oa) (h := h) (Nat.le_refl c)).set (nm := b) (B := ⟨[Value.string (txt s)] ++ (N.set x (N.getD x 0 + 1)).map nv ++ [Value.slice (some ⟨lb, 0, none⟩) s.length 1, nv a, .slice oa out.length ocp, nv k], 186, 0⟩) (.inr (by simp))).up (c3 := c + 6 + 7 + 6 + 2 + 16 + 4 + 2) (by omega)
        exact ((k1.call hKb (fun z hz => .inr (by simp only [List.mem_singleton] at hz; simp [hz]))).set (nm := b) (.inr (by simp))).up (by omega)
    · have hI2 := hI.step0 h256 (by omega) hx
      refine e_1 Tryz.func173 rfl (H _ (by decide)) Tryz.ntmps173 (by decide) ?_
      intro env U
      refine sg 6 J (qM U J (qN U J (qF U J fa186_0 (qL U J gA ((p9.1 _ _).trans J) ?_))))
      refine qK U J Tryz.underlying9 (qA U J (nK (sg 7 J ?_)))
      rw [hsz]
      refine qM U J (qN U J (qF U J fa186_5 (qL U J gA ((p3.1 _ _).trans (ivget 3 hNl J)) (v := nv k) ?_)))
      refine qM U J (q_rem U rfl rfl ⟨by omega, by omega⟩ ?_)
      refine qA U J (nK (rS (sg 6 J ?_)))
      simp only [e2']
      refine qM U J (qN U J (qF U J fa186_5 (qL U J gA ((p3.1 _ _).trans (ivget 3 hNl J)) (v := nv k) ?_)))
      refine qM U J (q_quo U rfl rfl ⟨by omega, by omega⟩ (by rw [e1']; exact wrapI oA oA) ?_)
      refine nK (rB (sg 2 J ?_))
      simp only [e1']
      refine qB U J J J (qA U J (nK (rT U rfl (by rfl) ?_)))
      refine rS (rD [] (by decide +kernel) (by decide +kernel) (n := 16) rfl ?_)
      refine qM U J (qM U J (qN U J (qF U J fa186_0 (qL U J gA ((p9.1 _ _).trans J) ?_))))
      refine qM U J (qJ U J J Tryz.underlying9 oA hti ?_)
      simp only [hxn]
      refine qN U J (qF U J fa186_1 (q_indexAddrA U rfl rfl Tryz.underlying184 i3 s3 ⟨by omega, by omega⟩ ?_))
      refine qL U rfl gA (by exact (p3.1 _ _).trans (ivn_get hNl hx2 oA)) (v := nv (N.getD x 0)) ?_
      refine qP U rfl rfl (m := ((N.getD x 0 + 1 : Nat) : Int)) (by rw [wrapI oA oA]; omega) ?_
      refine qN U J (qF U J fa186_1 (q_indexAddrA U rfl rfl Tryz.underlying184 i3 s3 ⟨by omega, by omega⟩ ?_))
      refine qW U rfl rfl gA p3 rfl rfl (by simp [hNl]; omega) ?_
      refine ro_nild (kN (sg 4 J ?_))
      have e69 : ([Value.string (txt s)] ++ N.map nv ++ [Value.slice (some ⟨lb, 0, none⟩) s.length 1, nv a, .slice oa out.length ocp, nv k]).set (0 + 1 + ((x : Nat) : Int).toNat * 1) (nv (N.getD x 0 + 1 : Nat)) = [Value.string (txt s)] ++ (N.set x (N.getD x 0 + 1)).map nv ++ [Value.slice (some ⟨lb, 0, none⟩) s.length 1, nv a, .slice oa out.length ocp, nv k] := ivn_set hNl hx2 (by omega)
      simp only [e69]
      refine qM U J (qM U J (q_sub U J J wA ?_))
      refine qB U J J J (nK (rF U rfl (by simp; omega) ?_))
      refine rK (kO (kN (rg 8 J (qM U J (qN U J (qF U J fa186_5 (qL U J gA ((p3.1 _ _).trans (ivget 3 hNl2 J)) (v := nv k) ?_)))))))
      refine qP U J J wA ?_
      refine qN U J (qF U J fa186_5 (qW U rfl rfl gA p3 rfl rfl (by simp [hNl]) ?_))
      refine rN (f_0 J (.inr J) ?_)
      have e9 : ([Value.string (txt s)] ++ (N.set x (N.getD x 0 + 1)).map nv ++ [Value.slice (some ⟨lb, 0, none⟩) s.length 1, nv a, .slice oa (out.length) ocp, nv k]).set (0 + 260) (nv (k + 1 : Nat)) = [Value.string (txt s)] ++ (N.set x (N.getD x 0 + 1)).map nv ++ [Value.slice (some ⟨lb, 0, none⟩) s.length 1, nv a, .slice oa (out.length) ocp, nv (k + 1 : Nat)] := ivset 3 hNl2 rfl
      refine ⟨⟨oa, ⟨(N.set x (N.getD x 0 + 1)), L, a, ocp, out, hI2, ?_, ?_, hS.move ?_, h0256, by omega⟩, fun z hz => .inl hz⟩, ?_⟩
      · dsimp only; rw [T.get_set, if_pos rfl]; exact congrArg (fun l => some (Blk.mk l 186 0)) e9
      · dsimp only; rw [T.get_set, if_neg hbl.symm, T.get_set, if_neg hbl.symm]; exact hL
      · intro z hz; have hzb : z ≠ b := fun e => hbo (e ▸ hz)
        dsimp only; rw [T.get_set, if_neg hzb, T.get_set, if_neg hzb]
      · exact (((Keep.refl (Nat.le_refl c)).set (nm := b) (.inr (by simp))).set (nm := b) (.inr (by simp))).up (by omega)
  · have hkn : k - s.length = i := by omega
    have hx' : s[k - s.length]? = some x := by rw [hkn]; exact hx
    have hI2 := hI.step1 h256 ⟨by omega, by omega⟩ hx'
    rw [hkn] at hI2
    have hpos := hI.pos1 h256 ⟨by omega, by omega⟩ hx'
    have hNl2 : (N.set x (N.getD x 0 + 1)).length = 256 := by simp [hNl]
    have hLs : ∀ v : Nat, (L.map nv).set (N.getD x 0) (nv v) = (L.set (N.getD x 0) v).map nv := fun v => (List.map_set).symm
    · skip
      refine e_1 Tryz.func173 rfl (H _ (by decide)) Tryz.ntmps173 (by decide) ?_
      intro env U
      refine sg 6 J (qM U J (qN U J (qF U J fa186_0 (qL U rfl (by first | assumption | (simp only [gs, hb, hbl, if_false]; rfl) | (simp [gs, hb, hbl, if_false]; try rfl)) ((p9.1 _ _).trans rfl) ?_))))
      refine qK U J Tryz.underlying9 (qA U J (nK (sg 7 J ?_)))
      rw [hsz]
      refine qM U J (qN U J (qF U J fa186_5 (qL U rfl (by first | assumption | (simp only [gs, hb, hbl, if_false]; rfl) | (simp [gs, hb, hbl, if_false]; try rfl)) ((p3.1 _ _).trans (ivget 3 hNl rfl)) (v := nv k) ?_)))
      refine qM U J (q_rem U rfl rfl ⟨by omega, by omega⟩ ?_)
      refine qA U J (nK (rS (sg 6 J ?_)))
      simp only [e2']
      refine qM U J (qN U J (qF U J fa186_5 (qL U rfl (by first | assumption | (simp only [gs, hb, hbl, if_false]; rfl) | (simp [gs, hb, hbl, if_false]; try rfl)) ((p3.1 _ _).trans (ivget 3 hNl rfl)) (v := nv k) ?_)))
      refine qM U J (q_quo U rfl rfl ⟨by omega, by omega⟩ (by rw [e1']; exact wrapI oA oA) ?_)
      refine nK (rB (sg 2 J ?_))
      simp only [e1']
      refine qB U J J J (qA U J (nK (rF U J dA ?_)))
      refine sg 2 J (qB U J J J (qA U J (nK (rT U J dA ?_))))
      refine sg 7 J (qM U J (qN U J (qF U J fa186_0 (qL U rfl (by first | assumption | (simp only [gs, hb, hbl, if_false]; rfl) | (simp [gs, hb, hbl, if_false]; try rfl)) ((p9.1 _ _).trans rfl) ?_))))
      refine qM U J (qJ U J J Tryz.underlying9 oA hti ?_)
      refine qA U J (nK (rS (rD [] (by decide +kernel) (by decide +kernel) (n := 13) rfl ?_)))
      simp only [hxn]
      refine qM U J (qN U J (qF U J fa186_2 (qL U rfl (by first | assumption | (simp only [gs, hb, hbl, if_false]; rfl) | (simp [gs, hb, hbl, if_false]; try rfl)) ((p171.1 _ _).trans (ivget 0 hNl rfl)) (v := .slice (some ⟨lb, 0, none⟩) s.length 1) ?_)))
      refine qM U J (qM U J (qN U J (qF U J fa186_1 (q_indexAddrA U rfl rfl Tryz.underlying184 i3 s3 ⟨by omega, by omega⟩ ?_))))
      refine qL U rfl (by first | assumption | (simp only [gs, hb, hbl, if_false]; rfl) | (simp [gs, hb, hbl, if_false]; try rfl)) (by exact (p3.1 _ _).trans (ivn_get hNl hx2 oA)) (v := nv (N.getD x 0)) ?_
      refine qM U J (qI U rfl rfl e171 ⟨by omega, by omega⟩ ?_)
      refine qW U rfl rfl (by first | assumption | (simp only [gs, hb, hbl, if_false]; rfl) | (simp [gs, hb, hbl, if_false]; try rfl)) p3 rfl rfl (by simp only [List.length_map]; omega) ?_
      refine ro_nild (kN (rD [] (by decide +kernel) (by decide +kernel) (n := 11) rfl ?_))
      refine qM U J (qM U J (qN U J (qF U J fa186_1 (q_indexAddrA U rfl rfl Tryz.underlying184 i3 s3 ⟨by omega, by omega⟩ ?_))))
      refine qL U rfl (by first | assumption | (simp only [gs, hb, hbl, if_false]; rfl) | (simp [gs, hb, hbl, if_false]; try rfl)) (by exact (p3.1 _ _).trans (ivn_get hNl hx2 oA)) (v := nv (N.getD x 0)) ?_
      refine qP U rfl rfl (m := ((N.getD x 0 + 1 : Nat) : Int)) (by rw [wrapI oA oA]; omega) ?_
      refine qN U J (qF U J fa186_1 (q_indexAddrA U rfl rfl Tryz.underlying184 i3 s3 ⟨by omega, by omega⟩ ?_))
      refine qW U rfl rfl (by first | assumption | (simp only [gs, hb, hbl, if_false]; rfl) | (simp [gs, hb, hbl, if_false]; try rfl)) p3 rfl rfl (by simp [hNl]; omega) ?_
      refine ro_nild (kO (kN (rg 8 J ?_)))
      have e69 : ([Value.string (txt s)] ++ N.map nv ++ [Value.slice (some ⟨lb, 0, none⟩) s.length 1, nv a, .slice oa (out.length) ocp, nv k]).set (0 + 1 + ((x : Nat) : Int).toNat * 1) (nv (N.getD x 0 + 1 : Nat)) = [Value.string (txt s)] ++ (N.set x (N.getD x 0 + 1)).map nv ++ [Value.slice (some ⟨lb, 0, none⟩) s.length 1, nv a, .slice oa (out.length) ocp, nv k] := ivn_set hNl hx2 (by omega)
      simp only [e69]
      refine qM U J (qN U J (qF U J fa186_5 (qL U rfl (by first | assumption | (simp only [gs, hb, hbl, if_false]; rfl) | (simp [gs, hb, hbl, if_false]; try rfl)) ((p3.1 _ _).trans (ivget 3 hNl2 rfl)) (v := nv k) ?_)))
      refine qP U J J wA ?_
      refine qN U J (qF U J fa186_5 (qW U rfl rfl (by first | assumption | (simp only [gs, hb, hbl, if_false]; rfl) | (simp [gs, hb, hbl, if_false]; try rfl)) p3 rfl rfl (by simp [hNl]) ?_))
      refine rN (f_0 J (.inr J) ?_)
      have e9 : ([Value.string (txt s)] ++ (N.set x (N.getD x 0 + 1)).map nv ++ [Value.slice (some ⟨lb, 0, none⟩) s.length 1, nv a, .slice oa (out.length) ocp, nv k]).set (0 + 260) (nv (k + 1 : Nat)) = [Value.string (txt s)] ++ (N.set x (N.getD x 0 + 1)).map nv ++ [Value.slice (some ⟨lb, 0, none⟩) s.length 1, nv a, .slice oa (out.length) ocp, nv (k + 1 : Nat)] := ivset 3 hNl2 rfl
      refine ⟨⟨oa, ⟨(N.set x (N.getD x 0 + 1)), (L.set (N.getD x 0) i), a, ocp, out, hI2, ?_, ?_, hS.move ?_, h0256, by omega⟩, fun z hz => .inl hz⟩, ?_⟩
      · dsimp only; rw [T.get_set, if_pos rfl]; exact congrArg (fun l => some (Blk.mk l 186 0)) e9
      · dsimp only; rw [T.get_set, if_neg hbl.symm, T.get_set, if_neg hbl.symm, T.get_set, if_pos rfl, show 0 + ((N.getD x 0 : Nat) : Int).toNat * 1 = N.getD x 0 by omega, hLs]
      · intro z hz; have hzb : z ≠ b := fun e => hbo (e ▸ hz)
        have hzl : z ≠ lb := fun e => hlo (e ▸ hz)
        dsimp only; rw [T.get_set, if_neg hzb, T.get_set, if_neg hzb, T.get_set, if_neg hzl]
      · exact ((((Keep.refl (Nat.le_refl c)).set (nm := lb) (.inr (by simp))).set (nm := b) (.inr (by simp))).set (nm := b) (.inr (by simp))).up (by omega)
  · have hkn : k - 2 * s.length = i := by omega
    have hI2 := hI.step2 (by omega)
    have hLo := hI.l2 (by omega)
    have ha : a < s.length := by rw [(hI.at2 (by omega)).1, hLo]; exact atI_lt h256 ho _
    have hav : L.getD a 0 < s.length := by
      have h1 := atI_lt h256 ho (k - 2 * s.length + 1)
      simp only [atI] at h1; rw [← hLo, ← (hI.at2 (by omega)).1] at h1; exact h1
    obtain ⟨y, hy⟩ : ∃ y, s[L.getD a 0]? = some y := ⟨_, List.getElem?_eq_getElem hav⟩
    have hyd : s.getD (L.getD a 0) 0 = y := by rw [List.getD_eq_getElem?_getD, hy]; rfl
    have hy2 := h256 y (List.mem_of_getElem? hy)
    have hyn : (UInt8.ofNat y).toNat = y := by simp [UInt8.toNat_ofNat, Nat.mod_eq_of_lt hy2]
    have hty : (txt s)[((L.getD a 0 : Nat) : Int).toNat]? = some (UInt8.ofNat y) := txt_get hy
    rw [hyd] at hI2
    · skip
      refine e_1 Tryz.func173 rfl (H _ (by decide)) Tryz.ntmps173 (by decide) ?_
      intro env U
      refine sg 6 J (qM U J (qN U J (qF U J fa186_0 (qL U rfl (by first | assumption | (simp only [gs, hb]; rfl) | (simp [gs, hb]; try rfl)) ((p9.1 _ _).trans rfl) ?_))))
      refine qK U J Tryz.underlying9 (qA U J (nK (sg 7 J ?_)))
      rw [hsz]
      refine qM U J (qN U J (qF U J fa186_5 (qL U rfl (by first | assumption | (simp only [gs, hb]; rfl) | (simp [gs, hb]; try rfl)) ((p3.1 _ _).trans (ivget 3 hNl rfl)) (v := nv k) ?_)))
      refine qM U J (q_rem U rfl rfl ⟨by omega, by omega⟩ ?_)
      refine qA U J (nK (rS (sg 6 J ?_)))
      simp only [e2']
      refine qM U J (qN U J (qF U J fa186_5 (qL U rfl (by first | assumption | (simp only [gs, hb]; rfl) | (simp [gs, hb]; try rfl)) ((p3.1 _ _).trans (ivget 3 hNl rfl)) (v := nv k) ?_)))
      refine qM U J (q_quo U rfl rfl ⟨by omega, by omega⟩ (by rw [e1']; exact wrapI oA oA) ?_)
      refine nK (rB (sg 2 J ?_))
      simp only [e1']
      refine qB U J J J (qA U J (nK (rF U J dA ?_)))
      refine sg 2 J (qB U J J J (qA U J (nK (rF U J dA ?_))))
      refine rS (rD [] (by decide +kernel) (by decide +kernel) (n := 14) rfl ?_)
      refine qM U J (qM U J (qN U J (qF U J fa186_2 (qL U rfl (by first | assumption | (simp only [gs, hb]; rfl) | (simp [gs, hb]; try rfl)) ((p171.1 _ _).trans (ivget 0 hNl rfl)) (v := .slice (some ⟨lb, 0, none⟩) s.length 1) ?_))))
      refine qM U J (qN U J (qF U J fa186_3 (qL U rfl (by first | assumption | (simp only [gs, hb]; rfl) | (simp [gs, hb]; try rfl)) ((p3.1 _ _).trans (ivget 1 hNl rfl)) (v := nv a) ?_)))
      refine qI U rfl rfl e171 ⟨by omega, by omega⟩ ?_
      refine qL U rfl (by first | assumption | (simp only [gs, hb]; rfl) | (simp [gs, hb]; try rfl)) (by exact (p3.1 _ _).trans (by rw [show 0 + ((a : Nat) : Int).toNat * 1 = a by omega]; exact nv_get (l := L) (i := a) oA)) (v := nv (L.getD a 0)) ?_
      refine qN U J (qF U J fa186_3 (qW U rfl rfl (by first | assumption | (simp only [gs, hb]; rfl) | (simp [gs, hb]; try rfl)) p3 rfl rfl (by simp [hNl]) ?_))
      refine ro_nild (kN (rD [] (by decide +kernel) (by decide +kernel) (n := 19) rfl ?_))
      have e34 : ([Value.string (txt s)] ++ N.map nv ++ [Value.slice (some ⟨lb, 0, none⟩) s.length 1, nv a, .slice oa (out.length) ocp, nv k]).set (0 + 258) (nv (L.getD a 0)) = [Value.string (txt s)] ++ N.map nv ++ [Value.slice (some ⟨lb, 0, none⟩) s.length 1, nv (L.getD a 0), .slice oa (out.length) ocp, nv k] := ivset 1 hNl rfl
      simp only [e34]
      refine qM U J (qM U J (qN U J (qF U J fa186_4 (qL U rfl (by first | assumption | (simp only [gs, hb]; rfl) | (simp [gs, hb]; try rfl)) ((p102.1 _ _).trans (ivget 2 hNl rfl)) (v := .slice oa out.length ocp) ?_))))
      refine qM U J (qN U J (qF U J fa186_0 (qL U rfl (by first | assumption | (simp only [gs, hb]; rfl) | (simp [gs, hb]; try rfl)) ((p9.1 _ _).trans rfl) ?_)))
      refine qM U J (qN U J (qF U J fa186_3 (qL U rfl (by first | assumption | (simp only [gs, hb]; rfl) | (simp [gs, hb]; try rfl)) ((p3.1 _ _).trans (ivget 1 hNl rfl)) (v := nv (L.getD a 0)) ?_)))
      refine qJ U J J Tryz.underlying9 oA hty ?_
      simp only [hyn]
      refine q1_ U J a102 J (qX U rfl rfl a102 a102 (hS.move (fun z hz => by have hzb : z ≠ b := (fun e => hbo (e ▸ hz)); have := hc.2.2 z hz; rw [T.get_set, if_neg oA, T.get_set, if_neg hzb])) ((T.get_set _ _ _ _).trans (if_pos rfl)) rfl oA oA ?_)
      intro a2 cp3 h4 hS4 hO4 hF4
      have hb4 := (hF4 b (by omega) hbo).trans ((T.get_set _ _ _ _).trans ((if_neg (by omega)).trans ((T.get_set _ _ _ _).trans (if_pos rfl))))
      refine qN U J (qF U J fa186_4 (qW U rfl rfl (by first | assumption | (simp only [gs, hb]; rfl) | (simp [gs, hb]; try rfl)) p102 rfl rfl (by simp [hNl]) ?_))
      refine ro_nild (kO (kN (rg 8 J ?_)))
      have e52 : ([Value.string (txt s)] ++ N.map nv ++ [Value.slice (some ⟨lb, 0, none⟩) s.length 1, nv (L.getD a 0), .slice oa (out.length) ocp, nv k]).set (0 + 259) (.slice a2 (out.length + 1) cp3) = [Value.string (txt s)] ++ N.map nv ++ [Value.slice (some ⟨lb, 0, none⟩) s.length 1, nv (L.getD a 0), .slice a2 (out.length + 1) cp3, nv k] := ivset 2 hNl rfl
      simp only [e52]
      refine qM U J (qN U J (qF U J fa186_5 (qL U rfl (by first | assumption | (simp only [gs, hb]; rfl) | (simp [gs, hb]; try rfl)) ((p3.1 _ _).trans (ivget 3 hNl rfl)) (v := nv k) ?_)))
      refine qP U J J wA ?_
      refine qN U J (qF U J fa186_5 (qW U rfl rfl (by first | assumption | (simp only [gs, hb]; rfl) | (simp [gs, hb]; try rfl)) p3 rfl rfl (by simp [hNl]) ?_))
      refine rN (f_0 J (.inr J) ?_)
      have e9 : ([Value.string (txt s)] ++ N.map nv ++ [Value.slice (some ⟨lb, 0, none⟩) s.length 1, nv (L.getD a 0), .slice a2 (out.length + 1) cp3, nv k]).set (0 + 260) (nv (k + 1 : Nat)) = [Value.string (txt s)] ++ N.map nv ++ [Value.slice (some ⟨lb, 0, none⟩) s.length 1, nv (L.getD a 0), .slice a2 (out.length + 1) cp3, nv (k + 1 : Nat)] := ivset 3 hNl rfl
      have hO5 : ∀ z ∈ own a2, c ≤ z ∧ z ≠ b ∧ z < c + 200 := fun z hz => by have := hO4 z hz; omega
      refine ⟨⟨a2, ⟨N, L, L.getD a 0, cp3, out ++ [y], hI2, ?_, ?_, ?_, ?_, by simp; omega⟩, fun z hz => .inr (by have := hO4 z hz; dsimp only; omega)⟩, ?_⟩
      · dsimp only; rw [T.get_set, if_pos rfl]; rw [List.length_append]; exact congrArg (fun l => some (Blk.mk l 186 0)) e9
      · dsimp only; rw [T.get_set, if_neg hbl.symm, T.get_set, if_neg hbl.symm, hF4 lb (by omega) hlo, T.get_set, if_neg (by omega), T.get_set, if_neg hbl.symm]; exact hL
      · rw [List.map_append, List.length_append]; exact hS4.move (fun z hz => by have := (hO5 z hz).2.1; dsimp only; rw [T.get_set, if_neg this, T.get_set, if_neg this])
      · intro w hw; rcases List.mem_append.mp hw with q | q
        · exact h0256 w q
        · simp only [List.mem_singleton] at q; omega
      · exact (((((Keep.refl (Nat.le_refl c)).set (nm := b) (.inr (by simp))).app2 hF4 (fun z hz => .inr (by simp [hz])) (by omega) (by omega) (Nat.le_refl _)).set (nm := b) (.inr (by simp))).set (nm := b) (.inr (by simp))).up (by omega)
end
theorem z186 : Tryz.t186.zero = some (.agg ([nostr] ++ (List.replicate 256 0).map nv ++ [nilS, nv 0, nilS, nv 0]).toArray) := by kernel_rfl
theorem z186p : plain (.agg ([nostr] ++ (List.replicate 256 0).map nv ++ [nilS, nv 0, nilS, nv 0]).toArray) = true := by kernel_rfl
theorem built186 (S : ByteArray) (a : Option Addr) (n cp : Nat) (o : Int) : Program.built Tryz.prog 186 [(0, .string S), (2, .slice a n cp), (3, iv o)] = some ([Value.string S] ++ (List.replicate 256 0).map nv ++ [Value.slice a n cp, iv o, nilS, nv 0]).toArray := by
  simp [Program.built, Instr.fill, Tryz.underlying186, Value.cells]; rfl
section
variable {ov : OvT} (H : OvH ov)
include H
theorem ivNew_cr {h : Heap} {c o : Nat} {s : List Nat} (hn : s.length ≤ 900000) (ho : o < s.length) :
    CR Tryz.prog ov 135 [.string (txt s), nv o] ⟨h, c⟩ (fun v st => ∃ b lb, v = .tuple #[ptr b, nv 0] ∧ IvR s o 0 b lb none st.heap.get ∧ (c ≤ b ∧ b < st.ctr) ∧ (c ≤ lb ∧ lb < st.ctr) ∧ Keep [] h c st) := by
  have hsz := txt_size s
  have h1 : decide ((o : Int) < 0) = false := by simp
  have hne : ((txt s).toList == (⟨#[]⟩ : ByteArray).toList) = false := by cases s with | nil => simp at ho | cons x s => simp [txt, Go.ByteArray.toList_eq]
  refine e_2 Tryz.func135 rfl (H _ (by decide)) Tryz.ntmps135 (by decide) ?_
  intro env U
  refine sg 2 J (qA U J (qA U J (nK (rS (rB (sg 3 J (qM U J (qB U J J J (qA U J (nK (rF U rfl (by exact hne) ?_)))))))))))
  refine sg 4 J (qM U J (qK U J Tryz.underlying9 ?_))
  rw [hsz]
  refine qB U J J J (qA U J (nK (rF U J dA ?_)))
  refine sg 9 J (qM U J (qB U J J J (qM U J (qG U J J J h1 (qM U J (qG U J J J h1 (qM U J (qG U J J J h1 (qK U J Tryz.underlying9 (qG U J J J h1 ?_))))))))))
  rw [hsz]
  refine qB U J J J (qQ U rfl rfl rfl (if_neg (by rw [h1]; decide)) ?_)
  refine qA U J (nK (rF U J dA ?_))
  refine rK (kO (kN (sg 9 J (qM U J (qM U J (qK U J Tryz.underlying9 ?_))))))
  rw [hsz]
  refine q_makeSlice U J J Tryz.underlying171 i3 z3 J s3 b3 J oA oA ?_
  refine qM U J (qU U J i186 z186 z186p (built186 _ _ _ _ _) (q_box U J (qA U J (qA U J (nK (rR (f_2 U J (.inl J) J J ?_)))))))
  refine ⟨c + 2 + 3 + 4 + 9 + 6, c + 2 + 3 + 4 + 9 + 3, rfl, ⟨List.replicate 256 0, List.replicate s.length 0, o, 0, [], ⟨by simp, by simp, fun _ b hb => ?_, fun q => by omega, fun q => by omega, fun q => by omega, fun _ => ⟨rfl, rfl⟩, fun q => by omega⟩, ?_, ?_, SlR.nil, by simp, Nat.zero_le _⟩, ⟨by omega, by dsimp only; omega⟩, ⟨by omega, by dsimp only; omega⟩, (((Keep.refl (Nat.le_refl c)).set (.inl oA)).set (.inl oA)).up oA⟩
  · rw [List.getD_eq_getElem?_getD, List.getElem?_replicate, if_pos hb]; simp [cntB, idx]
  · dsimp only; rw [T.get_set, if_pos rfl]; rfl
  · dsimp only; rw [T.get_set, if_neg (by omega), T.get_set, if_pos rfl]; simp
theorem ivDone_cr {h : Heap} {c b lb o k : Nat} {s : List Nat} {oa : Option Addr} (hP : IvR s o k b lb oa h.get) (hn : s.length ≤ 900000) :
    CR Tryz.prog ov 132 [ptr b] ⟨h, c⟩ (fun v st => v = .bool (k == 3 * s.length) ∧ Same h c st) := by
  obtain ⟨N, L, a, ocp, out, hI, hb, hL, hS, h0256, hok⟩ := id hP
  have hNl := hI.nl
  have hsz := txt_size s
  refine e_1 Tryz.func132 rfl (H _ (by decide)) Tryz.ntmps132 (by decide) ?_
  intro env U
  refine sg 1 J (qA U J (nK (rS (rD [] (by decide +kernel) (by decide +kernel) (n := 16) rfl ?_))))
  refine qM U J (qB U J J (nn147 _) (qM U J (qG U J J J J (qM U J (qG U J J J J (qN U J (qG U J J J J (qF U J fa186_5 (qG U J J J J (qL U J aA ((p3.1 _ _).trans (ivget 3 hNl J)) (v := nv k) ?_))))))))))
  refine qG U J J J J (qM U J (qG U J J J J (qN U J (qG U J J J J (qF U J fa186_0 (qG U J J J J (qL U J aA ((p9.1 _ _).trans J) ?_)))))))
  refine qG U J J J J (qK U J Tryz.underlying9 (qG U J J J J ?_))
  rw [hsz]
  refine q_mul U J J wA ?_
  refine qG U J J J J (qB U J J J (qQ U J J J (if_pos J) (qA U J (ro_nild (kN (rR (f_1 U J (.inl J) J ?_)))))))
  refine ⟨?_, rfl, by simp <;> omega⟩
  congr 1; rw [Bool.eq_iff_iff]; simp; omega
theorem ivTake_cr {h : Heap} {c b lb o k : Nat} {s : List Nat} {oa : Option Addr} (hP : IvR s o k b lb oa h.get) (hk : k = 3 * s.length) (hn : s.length ≤ 900000) (h0 : 0 < s.length) :
    CR Tryz.prog ov 137 [ptr b] ⟨h, c⟩ (fun v st => v = .string (txt (unbw s o)) ∧ Keep [b] h c st) := by
  obtain ⟨N, L, a, ocp, out, hI, hb, hL, hS, h0256, hok⟩ := id hP
  have hNl := hI.nl
  have hout : out = unbw s o := by rw [(hI.at2 (by omega)).2, hI.l2 (by omega), show k - 2 * s.length = s.length by omega]; rfl
  refine e_1 Tryz.func137 rfl (H _ (by decide)) Tryz.ntmps137 (by decide) ?_
  intro env U
  refine sg 1 J (qA U J (nK (rS (sg 2 J (qM U J (qB U J J (nq147 _) (nK (rF U J dA ?_))))))))
  refine rK (kN (sg 6 J (qM U J (qN U J (qF U J fa186_4 (qL U J aA ((p102.1 _ _).trans (ivget 2 hNl J)) (v := .slice oa out.length ocp) ?_))))))
  refine qY U rfl Tryz.underlying102 Tryz.underlying9 Tryz.underlying5 (bs := out.map UInt8.ofNat) (by rw [txt_cells h0256]; exact hS) ?_
  refine qA U J (nK (sg 4 J (qM U J (qN U J (qF U J fa186_4 (qW U rfl rfl aA p102 rfl rfl (by simp [hNl]) ?_))))))
  refine nK (sg 2 J (qM U J (qA U J (nK (rR (f_1 U J (.inl J) J ?_))))))
  exact ⟨by rw [← hout]; rfl, ((Keep.refl (Nat.le_refl c)).set (nm := b) (.inr (by simp))).up (by omega)⟩
theorem ivLoop_cr {h : Heap} {c b lb o : Nat} {s : List Nat} (hP : IvR s o 0 b lb none h.get) (hc : b < c ∧ lb < c) (h256 : ∀ x ∈ s, x < 256) (hn : s.length ≤ 900000) (ho : o < s.length) :
    CR Tryz.prog ov 136 [ptr b, iv (3 * (s.length : Int))] ⟨h, c⟩ (fun v st => (∃ oa, IvR s o (3 * s.length) b lb oa st.heap.get ∧ ∀ z ∈ own oa, c ≤ z) ∧ Keep [b, lb] h c st) := by
  obtain ⟨N, L, a, ocp, out, hI, hb, hL, hS, h0256, hok⟩ := id hP
  have hNl := hI.nl
  refine e_2 Tryz.func136 rfl (H _ (by decide)) Tryz.ntmps136 (by decide) ?_
  intro env U
  refine sg 1 J (qA U J (nK (rS (sg 2 J (qM U J (qB U J J (nq147 _) (nK (rF U J dA ?_))))))))
  refine rK (kN (sg 5 J (qM U J (qN U J (qF U J fa186_5 (qL U J aA ((p3.1 _ _).trans (ivget 3 hNl J)) (v := nv 0) ?_))))))
  refine qA U J (nK (rS (rB ?_)))
  refine rL (fun m env' s' => ∃ k, m = 3 * s.length - k ∧ k ≤ 3 * s.length ∧ ∃ oa, Hd 33 [(0, ptr b), (1, iv (3 * (s.length : Int))), (5, nv 0)] env' ∧ IvR s o k b lb oa s'.heap.get ∧ (∀ z ∈ own oa, c ≤ z ∧ z < s'.ctr) ∧ Keep [b, lb] h c s') (3 * s.length) ?_ ?_
  · exact ⟨0, rfl, Nat.zero_le _, none, Ho U ⟨rfl, rfl, rfl, trivial⟩, hP, by simp [own], Keep.refl (by omega)⟩
  rintro m _ ⟨h2, c2⟩ ⟨k, rfl, hk, oa, ⟨env, U, rfl⟩, hP2, hO2, hK2⟩
  dsimp only at hP2 hO2
  have hcc := hK2.1
  dsimp only at hcc
  obtain ⟨N2, L2, a2, ocp2, out2, hI2, hb2, _⟩ := id hP2
  refine rS (sg 13 J (qM U J (qC U J (CR.mono (ivDone_cr H hP2 hn) ?_))))
  rintro v ⟨hh1, cc1⟩ ⟨rfl, rfl, hk⟩
  try dsimp only at hk
  refine q_un U J J (qM U J ?_)
  refine q_case U (rfl : lk _ _ 15 = _) (fun hg => ?_) (fun hg => ?_)
  · have hg_ := hg
    try simp only [dz] at hg_
    refine qG U J J J hg (qM U J (qG U J J J hg (qN U J (qG U J J J hg (qF U J fa186_5 (qG U J J J hg (qL U J aA ((p3.1 _ _).trans (ivget 3 hI2.nl J)) (v := nv k) ?_)))))))
    refine qG U J J J hg (qM U J (qG U J J J hg (q_sub U J J wA ?_)))
    refine qG U J J J hg (qM U J (qG U J J J hg (qB U J J J (qQ U J J J (if_pos hg) (nK (rT U rfl (by simp at hg_; simp; omega) ?_))))))
    refine rK (kN (rB (rg 2 J (qM U J (qC U J (CR.mono (ivStep_cr H hP2 ⟨by omega, by omega, fun z hz => by have := hO2 z hz; omega⟩ h256 hn ho (by simp at hg_; omega)) ?_))))))
    rintro v ⟨hh2, cc2⟩ ⟨⟨oa', hP3, hO3⟩, hK3⟩
    refine rN (kO (kN ?_))
    refine ⟨3 * s.length - (k + 1), by simp at hg_; omega, k + 1, rfl, by simp at hg_; omega, oa', Ho U ⟨rfl, rfl, rfl, trivial⟩, hP3, fun z hz => ?_, (hK2.up oA).call hK3 ?_⟩
    · have hcc3 := hK3.1; dsimp only at *; rcases hO3 z hz with q | q
      · have := hO2 z q; omega
      · omega
    · intro z hz; simp only [List.mem_cons] at hz; rcases hz with q | q | q
      · right; simp [q]
      · right; simp [q]
      · left; exact (hO2 z q).1
  · have hg_ := hg
    try simp only [dz] at hg_
    refine qS U rfl rfl rfl rfl (by rw [hg]; decide) ?_
    refine qS U rfl rfl rfl rfl (by rw [hg]; decide) ?_
    refine qS U rfl rfl rfl rfl (by rw [hg]; decide) ?_
    refine qS U rfl rfl rfl rfl (by rw [hg]; decide) ?_
    refine qS U rfl rfl rfl rfl (by rw [hg]; decide) ?_
    refine qS U rfl rfl rfl rfl (by rw [hg]; decide) ?_
    refine qS U rfl rfl rfl rfl (by rw [hg]; decide) ?_
    refine qS U rfl rfl rfl rfl (by rw [hg]; decide) ?_
    refine qQ U rfl rfl rfl (if_neg (by rw [hg]; decide)) ?_
    refine nK (rF U J dA ?_)
    refine r_exit (kE (kE (kB (kN (sg 7 J (qM U J (qN U J (qF U J fa186_5 (qL U J aA ((p3.1 _ _).trans (ivget 3 hI2.nl J)) (v := nv k) ?_)))))))))
    refine qM U J (q_sub U J J wA ?_)
    refine qA U J (nK (rR (f_1 U J (.inl J) J ?_)))
    have ek : k = 3 * s.length := by simp at hg_; omega
    subst ek
    exact ⟨⟨oa, hP2, fun z hz => (hO2 z hz).1⟩, hK2.up (by omega)⟩
theorem unbwtOf_cr {h : Heap} {c o : Nat} {s : List Nat} (h256 : ∀ x ∈ s, x < 256) (hn : s.length ≤ 900000) (ho : o < s.length) :
    CR Tryz.prog ov 106 [.string (txt s), nv o] ⟨h, c⟩ (fun v st => v = .tuple #[.string (txt (unbw s o)), nv 0] ∧ Keep [] h c st) := by
  have hsz := txt_size s
  refine e_2 Tryz.func106 rfl (H _ (by decide)) Tryz.ntmps106 (by decide) ?_
  intro env U
  refine sg 2 J (qA U J (qA U J (nK (sg 8 J (qM U J (qM U J (qC U J (CR.mono (ivNew_cr H hn ho) ?_))))))))
  rintro v ⟨hh1, cc1⟩ ⟨b, lb, rfl, hP, hb, hlb, hK⟩
  have hcc1 := hK.1
  dsimp only at hcc1 hP hb hlb
  refine qM U J (qE U J J (qE U J J (qA U J (qA U J (nK (rS (sg 2 J (qM U J (qB U J J J (nK (rF U J dA ?_)))))))))))
  refine rK (kN (sg 5 J (qM U J (qM U J (qK U J Tryz.underlying9 ?_)))))
  rw [hsz]
  refine q_mul U J J wA ?_
  refine qC U J (CR.mono (ivLoop_cr H hP ⟨by omega, by omega⟩ h256 hn ho) ?_)
  rintro v ⟨hh2, cc2⟩ ⟨⟨oa, hP2, hO2⟩, hK2⟩
  refine nK (sg 4 J ?_)
  have hcc2 := hK2.1
  dsimp only at hcc2 hP2
  refine qM U J (qC U J (CR.mono (ivTake_cr H hP2 J hn oA) ?_))
  rintro v ⟨hh3, cc3⟩ ⟨rfl, hK3⟩
  refine qA U J (qA U J (nK (rR (f_2 U J (.inl J) J J ?_))))
  exact ⟨rfl, (((((hK.base (by omega)).up (c3 := cc1 + 2 + 5) (by omega)).call hK2 (fun z hz => by simp only [List.mem_cons, List.not_mem_nil, or_false] at hz; left; rcases hz with q | q <;> omega)).up (c3 := cc2 + 4) (by omega)).call hK3 (fun z hz => by simp only [List.mem_cons, List.not_mem_nil, or_false] at hz; left; omega)).up (by omega)⟩
end
def unpk : Nat → Nat → List Nat → Except Nat (List Nat)
  | run, _, [] => if run = 4 then .error 24 else .ok []
  | run, p, x :: r =>
    if run = 4 then if 251 < x then .error 25 else (unpk 0 x r).map (List.replicate x p ++ ·)
    else if 0 < run ∧ x = p then (unpk (run + 1) x r).map (x :: ·)
    else (unpk 1 x r).map (x :: ·)
def Out (s : List Nat) (out : List Nat) (rest : Except Nat (List Nat)) : Prop := unpk 0 0 s = rest.map (out ++ ·)
theorem Out.app {s out a : List Nat} {rest rest' : Except Nat (List Nat)} (h : Out s out rest') (e : rest' = rest.map (a ++ ·)) : Out s (out ++ a) rest := by
  unfold Out at *; rw [h, e]; cases rest <;> simp [Except.map]
theorem unpk_err {s : List Nat} : ∀ {run p e : Nat}, unpk run p s = .error e → e = 24 ∨ e = 25 := by
  induction s with
  | nil => intro run p e h; simp only [unpk] at h; split at h <;> cases h; simp
  | cons x s ih =>
    intro run p e h
    simp only [unpk] at h
    split at h
    · split at h
      · cases h; simp
      · cases hq : unpk 0 x s with
        | error e' => rw [hq] at h; cases h; exact ih hq
        | ok y => rw [hq] at h; cases h
    · split at h
      · cases hq : unpk (run + 1) x s with
        | error e' => rw [hq] at h; cases h; exact ih hq
        | ok y => rw [hq] at h; cases h
      · cases hq : unpk 1 x s with
        | error e' => rw [hq] at h; cases h; exact ih hq
        | ok y => rw [hq] at h; cases h
def DecG (h0 : Heap) (c0 vb : Nat) (out : List Nat) (h : Heap) (c : Nat) : Prop :=
  ∃ a cp, h.get vb = some ⟨[.slice a out.length cp], 102, 0⟩ ∧ SlR 5 1 (out.map bv) a out.length cp h.get ∧ (∀ x ∈ out, x < 256) ∧ (∀ z ∈ own a, c0 ≤ z ∧ z < c) ∧ c0 ≤ vb ∧ vb < c ∧ Keep [] h0 c0 ⟨h, c⟩
section
variable {ov : OvT} (H : OvH ov)
include H
theorem unpack_cr {h : Heap} {c g : Nat} {s : List Nat} {cap : List Value} {G : List Nat → Heap → Nat → Prop} (h256 : ∀ x ∈ s, x < 256) (hn : s.length ≤ 900000)
    (hup : ∀ out h c c', G out h c → c ≤ c' → G out h c')
    (hg : ∀ out h c x n, G out h c → out.length ≤ 251 * 900000 → x < 256 → n ≤ 251 → CR Tryz.prog ov g (bv x :: nv n :: cap) ⟨h, c⟩ (fun v st => G (out ++ List.replicate n x) st.heap st.ctr)) (h0 : G [] h c) :
    CR Tryz.prog ov 138 [.string (txt s), .func (.func g) #[] cap.toArray] ⟨h, c⟩ (fun v st => match unpk 0 0 s with
      | .ok out => v = nv 0 ∧ G out st.heap st.ctr
      | .error e => v = nv e ∧ ∃ out, G out st.heap st.ctr) := by
  have hsz := txt_size s
  refine e_2 Tryz.func138 rfl (H _ (by decide)) Tryz.ntmps138 (by decide) ?_
  intro env U
  refine sg 1 J (qA U J (nK (sg 1 J (qA U J (nK (rS (sg 3 J (qM U J (qK U J Tryz.underlying9 ?_)))))))))
  rw [hsz]
  refine qM U J (nK (rB ?_))
  refine rL (fun m env' s' => ∃ j run out, m = s.length - j ∧ j ≤ s.length ∧ run ≤ 4 ∧ (j = 0 → run = 0) ∧ Hd 52 [(0, .string (txt s)), (1, .func (.func g) #[] cap.toArray), (8, nv s.length), (9, nv j), (5, nv run)] env' ∧ G out s'.heap s'.ctr ∧ Out s out (unpk run (if j = 0 then 0 else s.getD (j - 1) 0) (s.drop j)) ∧ out.length ≤ 251 * j) s.length ?_ ?_
  · exact ⟨0, 0, [], rfl, Nat.zero_le _, by omega, fun _ => rfl, Ho U ⟨rfl, rfl, rfl, rfl, rfl, trivial⟩, hup _ _ _ _ h0 (by dsimp only; omega), by unfold Out; cases h : unpk 0 0 s <;> simp [h, Except.map], by simp⟩
  rintro m _ ⟨h2, c2⟩ ⟨j, run, out, rfl, hj, hr4, hj0, ⟨env, U, rfl⟩, hG, hO, hol⟩
  dsimp only at hG
  refine sg 1 J (qB U J J J (nK (rS ?_)))
  refine rC U rfl (fun hjn => ?_) (fun hjn => ?_)
  · try simp only [dz, dy] at hjn
    obtain ⟨x, hx⟩ : ∃ x, s[j]? = some x := ⟨_, List.getElem?_eq_getElem (by omega)⟩
    have hx2 := h256 x (List.mem_of_getElem? hx)
    have hxn : (UInt8.ofNat x).toNat = x := by simp [UInt8.toNat_ofNat, Nat.mod_eq_of_lt hx2]
    have hd : s.drop j = x :: s.drop (j + 1) := by rw [List.drop_eq_getElem_cons (by omega)]; rw [List.getElem?_eq_getElem (by omega)] at hx; rw [Option.some.inj hx]
    rw [hd] at hO
    have hsx : s.getD (j + 1 - 1) 0 = x := by rw [Nat.add_sub_cancel, List.getD_eq_getElem?_getD, hx]; rfl
    refine rK (kN (rS (rB (sg 2 J (qM U J (qA U J (nK (rS (rB (sg 3 J (qM U J (qB U J J J (qA U J (nK ?_))))))))))))))
    refine rC U rfl (fun hrun => ?_) (fun hrun => ?_)
    · try simp only [dz, dy] at hrun
      have hr : run = 4 := by omega
      subst hr
      have hj1 : j ≠ 0 := fun e => by have := hj0 e; omega
      rw [if_neg hj1] at hO
      obtain ⟨y, hy⟩ : ∃ y, s[j - 1]? = some y := ⟨_, List.getElem?_eq_getElem (by omega)⟩
      have hy2 := h256 y (List.mem_of_getElem? hy)
      have hyn : (UInt8.ofNat y).toNat = y := by simp [UInt8.toNat_ofNat, Nat.mod_eq_of_lt hy2]
      have hyd : s.getD (j - 1) 0 = y := by rw [List.getD_eq_getElem?_getD, hy]; rfl
      rw [hyd] at hO
      refine rS (sg 4 J (qM U J (qM U J (qJ U J J Tryz.underlying9 oA (txt_get hx) ?_))))
      simp only [hxn]
      refine qB U J J J (nK ?_)
      refine rC U rfl (fun hx251 => ?_) (fun hx251 => ?_)
      · try simp only [dz, dy] at hx251
        refine sg 1 J (qA U J (nK (rR (kR (k_bloR (kR (k_bloR (kR (kR (k_bloR (kR (f_1 U J (.inl J) J ?_))))))))))))
        have hu : unpk 0 0 s = .error 25 := by rw [show unpk 0 0 s = _ from hO]; simp only [unpk, if_true]; rw [if_pos (by omega)]; rfl
        rw [hu]; exact ⟨rfl, out, hup _ _ _ _ hG (by dsimp only; omega)⟩
      · try simp only [dz, dy] at hx251
        refine rK (kN (rS (rD [] (by decide +kernel) (by decide +kernel) (n := 10) rfl ?_)))
        refine qM U J (qM U J (qM U J (q_sub U J J wA ?_)))
        refine qJ U rfl rfl Tryz.underlying9 oA (by have := txt_get hy; rw [show ((j : Int) - 1).toNat = j - 1 by omega]; exact this) ?_
        simp only [hyn]
        refine qM U J (qM U J (qJ U J J Tryz.underlying9 oA (txt_get hx) ?_))
        simp only [hxn]
        refine qH U J Tryz.underlying5 Tryz.underlying3 wA ?_
        refine q_callV U J J (CR.mono (hg out _ _ y x (hup _ _ _ _ hG oA) oA hy2 oA) ?_)
        rintro v ⟨h9, c9⟩ hG2
        refine ro_nild (kN (sg 1 J (qA U J (nK (r_exit (k_bloN J (kE (kB (kN (rg 2 J (qP U J J wA ?_)))))))))))
        refine qM U J (nK ?_)
        have e1 : unpk 4 y (x :: s.drop (j + 1)) = (unpk 0 x (s.drop (j + 1))).map (List.replicate x y ++ ·) := by simp only [unpk, if_true]; rw [if_neg (by omega)]
        exact ⟨s.length - (j + 1), by omega, j + 1, 0, out ++ List.replicate x y, rfl, by omega, by omega, fun q => by omega, Ho U ⟨rfl, rfl, rfl, rfl, rfl, trivial⟩, hup _ _ _ _ hG2 (by dsimp only; omega), by rw [if_neg (by omega), hsx]; exact hO.app e1, by simp; omega⟩
    · try simp only [dz, dy] at hrun
      have hr4' : run ≠ 4 := fun e => hrun (by omega)
      refine rS (rD [] (by decide +kernel) (by decide +kernel) (n := 13) rfl ?_)
      refine qM U J (qB U J J J (qM U J ?_))
      refine q_case U (rfl : lk _ _ 32 = _) (fun hrg => ?_) (fun hrg => ?_)
      · have hrg_ := hrg
        try simp only [dz] at hrg_
        have hj1 : j ≠ 0 := fun e => by have := hj0 e; omega
        obtain ⟨y, hy⟩ : ∃ y, s[j - 1]? = some y := ⟨_, List.getElem?_eq_getElem (by omega)⟩
        have hy2 := h256 y (List.mem_of_getElem? hy)
        have hyn : (UInt8.ofNat y).toNat = y := by simp [UInt8.toNat_ofNat, Nat.mod_eq_of_lt hy2]
        have hyd : s.getD (j - 1) 0 = y := by rw [List.getD_eq_getElem?_getD, hy]; rfl
        refine qG U J J J hrg (qM U J (qG U J J J hrg (qM U J (qG U J J J hrg (qJ U J J Tryz.underlying9 oA (txt_get hx) ?_)))))
        refine qG U J J J hrg ?_
        simp only [hxn]
        refine qM U J (qG U J J J hrg (qM U J (qG U J J J hrg (q_sub U J J wA ?_))))
        refine qG U J J J hrg (qJ U rfl rfl Tryz.underlying9 oA (by have := txt_get hy; rw [show ((j : Int) - 1).toNat = j - 1 by omega]; exact this) ?_)
        refine qG U J J J hrg ?_
        simp only [hyn]
        refine qB U J J J (qQ U J J J (if_pos hrg) (qA U J (ro_nild (kN ?_))))
        refine rC U rfl (fun hxy => ?_) (fun hxy => ?_)
        · try simp only [dz, dy] at hxy
          refine rg 3 J (qM U J (qP U J J wA ?_))
          refine qA U J (rN (kO (kN (rg 5 J (qM U J (qM U J (qM U J (qJ U J J Tryz.underlying9 oA (txt_get hx) ?_))))))))
          simp only [hxn]
          refine q_callV U J J (CR.mono (hg out _ _ x 1 (hup _ _ _ _ hG oA) oA hx2 oA) ?_)
          rintro v ⟨h9, c9⟩ hG2
          refine rN (kO (kN (rg 2 J (qP U J J wA ?_))))
          refine qM U J (nK ?_)
          have e1 : unpk run (if j = 0 then 0 else s.getD (j - 1) 0) (x :: s.drop (j + 1)) = (unpk (run + 1) x (s.drop (j + 1))).map ([x] ++ ·) := by rw [if_neg hj1, hyd]; simp only [unpk]; rw [if_neg hr4', if_pos (by omega)]; rfl
          exact ⟨s.length - (j + 1), by omega, j + 1, run + 1, out ++ [x], rfl, by omega, by omega, fun q => by omega, Ho U ⟨rfl, rfl, rfl, rfl, rfl, trivial⟩, hup _ _ _ _ hG2 (by dsimp only; omega), by rw [if_neg (by omega), hsx]; exact hO.app e1, by simp; omega⟩
        · try simp only [dz, dy] at hxy
          refine rg 1 J (qA U J (rN (kO (kN (rg 5 J (qM U J (qM U J (qM U J (qJ U J J Tryz.underlying9 oA (txt_get hx) ?_)))))))))
          simp only [hxn]
          refine q_callV U J J (CR.mono (hg out _ _ x 1 (hup _ _ _ _ hG oA) oA hx2 oA) ?_)
          rintro v ⟨h9, c9⟩ hG2
          refine rN (kO (kN (rg 2 J (qP U J J wA ?_))))
          refine qM U J (nK ?_)
          have e1 : unpk run (if j = 0 then 0 else s.getD (j - 1) 0) (x :: s.drop (j + 1)) = (unpk (1) x (s.drop (j + 1))).map ([x] ++ ·) := by rw [if_neg hj1, hyd]; simp only [unpk]; rw [if_neg hr4', if_neg (by omega)]; rfl
          exact ⟨s.length - (j + 1), by omega, j + 1, 1, out ++ [x], rfl, by omega, by omega, fun q => by omega, Ho U ⟨rfl, rfl, rfl, rfl, rfl, trivial⟩, hup _ _ _ _ hG2 (by dsimp only; omega), by rw [if_neg (by omega), hsx]; exact hO.app e1, by simp; omega⟩
      · have hrg_ := hrg
        try simp only [dz] at hrg_
        refine qS U rfl rfl rfl rfl (by rw [hrg]; decide) ?_
        refine qS U rfl rfl rfl rfl (by rw [hrg]; decide) ?_
        refine qS U rfl rfl rfl rfl (by rw [hrg]; decide) ?_
        refine qS U rfl rfl rfl rfl (by rw [hrg]; decide) ?_
        refine qS U rfl rfl rfl rfl (by rw [hrg]; decide) ?_
        refine qS U rfl rfl rfl rfl (by rw [hrg]; decide) ?_
        refine qS U rfl rfl rfl rfl (by rw [hrg]; decide) ?_
        refine qS U rfl rfl rfl rfl (by rw [hrg]; decide) ?_
        refine qQ U rfl rfl rfl (if_neg (by rw [hrg]; decide)) ?_
        refine qA U J (ro_nild (kN (rF U J dA ?_)))
        refine rg 1 J (qA U J (rN (kO (kN (rg 5 J (qM U J (qM U J (qM U J (qJ U J J Tryz.underlying9 oA (txt_get hx) ?_)))))))))
        simp only [hxn]
        refine q_callV U J J (CR.mono (hg out _ _ x 1 (hup _ _ _ _ hG oA) oA hx2 oA) ?_)
        rintro v ⟨h9, c9⟩ hG2
        refine rN (kO (kN (rg 2 J (qP U J J wA ?_))))
        refine qM U J (nK ?_)
        have e1 : unpk run (if j = 0 then 0 else s.getD (j - 1) 0) (x :: s.drop (j + 1)) = (unpk (1) x (s.drop (j + 1))).map ([x] ++ ·) := by simp only [unpk]; rw [if_neg hr4', if_neg (by omega)]; rfl
        exact ⟨s.length - (j + 1), by omega, j + 1, 1, out ++ [x], rfl, by omega, by omega, fun q => by omega, Ho U ⟨rfl, rfl, rfl, rfl, rfl, trivial⟩, hup _ _ _ _ hG2 (by dsimp only; omega), by rw [if_neg (by omega), hsx]; exact hO.app e1, by simp; omega⟩
  · try simp only [dz, dy] at hjn
    have ej : j = s.length := by omega
    subst ej
    rw [List.drop_length] at hO
    refine r_exit (kE (kE (kB (kN (rS (sg 2 J (qM U J (qB U J J J (nK ?_)))))))))
    refine rC U rfl (fun hrun => ?_) (fun hrun => ?_)
    · try simp only [dz, dy] at hrun
      refine sg 1 J (qA U J (nK (rR (kR (f_1 U J (.inl J) J ?_)))))
      have hu : unpk 0 0 s = .error 24 := by rw [show unpk 0 0 s = _ from hO]; simp only [unpk]; rw [if_pos (by omega)]; rfl
      rw [hu]; exact ⟨rfl, out, hup _ _ _ _ hG (by dsimp only; omega)⟩
    · try simp only [dz, dy] at hrun
      refine rK (kN (sg 1 J (qA U J (nK (rR (f_1 U J (.inl J) J ?_))))))
      have hu : unpk 0 0 s = .ok out := by rw [show unpk 0 0 s = _ from hO]; simp only [unpk]; rw [if_neg (by omega)]; simp [Except.map]
      rw [hu]; exact ⟨rfl, hup _ _ _ _ hG (by dsimp only; omega)⟩
theorem decF_cr {h h0 : Heap} {c c0 vb x n : Nat} {out : List Nat} (hG : DecG h0 c0 vb out h c) (hol : out.length ≤ 251 * 900000) (hx : x < 256) (hn : n ≤ 251) :
    CR Tryz.prog ov 139 [bv x, nv n, ptr vb] ⟨h, c⟩ (fun v st => DecG h0 c0 vb (out ++ List.replicate n x) st.heap st.ctr) := by
  refine e_3 Tryz.func139 rfl (H _ (by decide)) Tryz.ntmps139 (by decide) ?_
  intro env U
  refine sg 2 J (qM U J (qM U J (nK (rB ?_))))
  refine rL (fun m env' s' => ∃ j, m = n - j ∧ j ≤ n ∧ Hd 13 [(0, bv x), (1, nv n), (2, ptr vb), (5, nv n), (6, nv j)] env' ∧ DecG h0 c0 vb (out ++ List.replicate j x) s'.heap s'.ctr) n ?_ ?_
  · refine ⟨0, rfl, Nat.zero_le _, Ho U ⟨rfl, rfl, rfl, rfl, rfl, trivial⟩, ?_⟩
    obtain ⟨a, cp, h1, h2, h3, h4, h5, h6, h7⟩ := hG
    rw [List.replicate_zero, List.append_nil]; exact ⟨a, cp, h1, h2, h3, fun z hz => by have := h4 z hz; dsimp only; omega, h5, by dsimp only; omega, h7.up (by dsimp only; omega)⟩
  rintro m _ ⟨h2, c2⟩ ⟨j, rfl, hj, ⟨env, U, rfl⟩, hG2⟩
  dsimp only at hG2
  refine sg 1 J (qB U J J J (nK (rS ?_)))
  refine rC U rfl (fun hjn => ?_) (fun hjn => ?_)
  · try simp only [dz, dy] at hjn
    obtain ⟨a, cp, hb, hS, h256, hO, hv0, hv1, hK⟩ := hG2
    have hbo := own_ne hS hb (by dsimp only; decide)
    have hle : (out ++ List.replicate j x).length ≤ 251 * 900001 := by simp; omega
    refine rK (kN (rS (rB (rg 5 J (qL U J gA ((p102.1 _ _).trans J) ?_)))))
    refine qM U J (q1_ U J a102 J (qX U rfl rfl a102 a102 (hS.move (fun z hz => by have := hO z hz; rw [T.get_set, if_neg oA])) ((T.get_set _ _ _ _).trans (if_pos rfl)) rfl oA oA ?_))
    intro a2 cp3 h4 hS4 hO4 hF4
    have hb4 := (hF4 vb (by omega) hbo).trans ((T.get_set _ _ _ _).trans ((if_neg (by omega)).trans hb))
    refine qW U rfl rfl gA p102 rfl rfl (by first | decide | (simp; done) | (simp; omega)) ?_
    refine rN (kO (kN (rg 2 J (qP U J J wA ?_))))
    refine qM U J (nK ?_)
    have hO5 : ∀ z ∈ own a2, z ≠ vb := fun z hz => by have := hO4 z hz; omega
    have er : out ++ List.replicate (j + 1) x = out ++ List.replicate j x ++ [x] := by rw [List.replicate_succ', List.append_assoc]
    refine ⟨n - (j + 1), by omega, j + 1, rfl, by omega, Ho U ⟨rfl, rfl, rfl, rfl, rfl, trivial⟩, ?_⟩
    rw [er]
    refine ⟨a2, cp3, ?_, ?_, fun y hy => ?_, fun z hz => by have := hO4 z hz; have := hK.1; dsimp only at *; omega, hv0, by dsimp only; omega, ?_⟩
    · dsimp only; rw [T.get_set, if_pos rfl]; simp; omega
    · rw [List.map_append, List.length_append]; exact hS4.move (fun z hz => by dsimp only; rw [T.get_set, if_neg (hO5 z hz)])
    · rcases List.mem_append.mp hy with q | q
      · exact h256 y q
      · simp only [List.mem_singleton] at q; omega
    · have hcc := hK.1; dsimp only at hcc
      exact ((hK.app2 (c3 := c2) hF4 (fun z hz => .inl (hO z hz).1) (by omega) (by omega) (Nat.le_refl _)).set (nm := vb) (.inl hv0)).up (by dsimp only; omega)
  · try simp only [dz, dy] at hjn
    have ej : j = n := by omega
    subst ej
    obtain ⟨a, cp, hb, hS, h256, hO, hv0, hv1, hK⟩ := hG2
    refine r_exit (kE (kE (kB (f_0 J (.inr J) ?_))))
    exact ⟨a, cp, hb, hS, h256, fun z hz => by have := hO z hz; dsimp only; omega, hv0, by dsimp only; omega, hK.up (by dsimp only; omega)⟩
theorem decode_cr {h : Heap} {c : Nat} {s : List Nat} (h256 : ∀ x ∈ s, x < 256) (hn : s.length ≤ 900000) :
    CR Tryz.prog ov 107 [.string (txt s)] ⟨h, c⟩ (fun v st => (match unpk 0 0 s with
      | .ok out => v = .tuple #[.string (txt out), nv 0] ∧ ∀ x ∈ out, x < 256
      | .error e => v = .tuple #[nostr, nv e]) ∧ Keep [] h c st) := by
  have hU := fun (h1 : Heap) c1 (hG : DecG h c (c + 2) [] h1 c1) => unpack_cr H (h := h1) (c := c1) (g := 139) (cap := [ptr (c + 2)]) (G := DecG h c (c + 2)) h256 hn (fun out h c3 c4 q hc => by obtain ⟨a, cp, q1, q2, q3, q4, q5, q6, q7⟩ := q; exact ⟨a, cp, q1, q2, q3, fun z hz => by have := q4 z hz; omega, q5, by omega, q7.up hc⟩) (fun out h c3 x n q hol hx hn => decF_cr H q hol hx hn) hG
  cases hu : unpk 0 0 s with
  | error e =>
    have he := unpk_err hu
    simp only [hu] at hU
    refine e_1 Tryz.func107 rfl (H _ (by decide)) Tryz.ntmps107 (by decide) ?_
    intro env U
    refine sg 2 J (qA U J (qA U J (nK (sg 1 J (qZ i102 z102 J (nK (sg 4 J (qM U J (q_makeFunc U J J (qC U J (CR.mono (hU _ _ ⟨none, 0, (T.get_set _ _ _ _).trans (if_pos rfl), SlR.nil, by simp, by simp [own], by omega, by omega, ((Keep.refl (Nat.le_refl c)).set (.inl oA)).up oA⟩) ?_)))))))))))
    rintro v ⟨hh1, cc1⟩ ⟨rfl, out, hG⟩
    refine qA U J (nK (rS (sg 2 J (qM U J (qB U J J J (nK (rT U rfl (by simp; omega) ?_)))))))
    refine sg 3 J (qM U J (qA U J (qA U J (nK (rR (kR (f_2 U J (.inl J) J J ?_)))))))
    obtain ⟨a, cp, q1, q2, q3, q4, q5, q6, q7⟩ := hG
    exact ⟨rfl, q7.up (by dsimp only; omega)⟩
  | ok out =>
    simp only [hu] at hU
    refine e_1 Tryz.func107 rfl (H _ (by decide)) Tryz.ntmps107 (by decide) ?_
    intro env U
    refine sg 2 J (qA U J (qA U J (nK (sg 1 J (qZ i102 z102 J (nK (sg 4 J (qM U J (q_makeFunc U J J (qC U J (CR.mono (hU _ _ ⟨none, 0, (T.get_set _ _ _ _).trans (if_pos rfl), SlR.nil, by simp, by simp [own], by omega, by omega, ((Keep.refl (Nat.le_refl c)).set (.inl oA)).up oA⟩) ?_)))))))))))
    rintro v ⟨hh1, cc1⟩ ⟨rfl, hG⟩
    refine qA U J (nK (rS (sg 2 J ?_)))
    obtain ⟨a, cp, q1, q2, q3, q4, q5, q6, q7⟩ := hG
    refine qM U J (qB U J J J (nK (rF U J dA ?_)))
    refine rK (kN (sg 4 J (qL U J gA ((p102.1 _ _).trans J) ?_)))
    refine qY U rfl Tryz.underlying102 Tryz.underlying9 Tryz.underlying5 (bs := out.map UInt8.ofNat) (by rw [txt_cells q3]; exact q2) ?_
    refine qA U J (qA U J (nK (rR (f_2 U J (.inl J) J J ?_))))
    exact ⟨⟨rfl, q3⟩, q7.up (by dsimp only; omega)⟩
end
abbrev uv (n : Nat) : Value := .int .u32 n
theorem wrapU32m (x : Nat) : IntKind.u32.wrap (x : Int) = ((x % 4294967296 : Nat) : Int) := by
  unfold IntKind.wrap; simp [IntKind.signed, IntKind.bits]
theorem xorU {P : Program} {t : TypeId} (a b : Nat) (ha : a < 4294967296) (hb : b < 4294967296) : evBin P .xor t (uv a) (uv b) = some (uv (a ^^^ b)) := by
  have hlt : a ^^^ b < 2 ^ 32 := Nat.xor_lt_two_pow ha hb
  have h3 : IntKind.u32.wrap ((BitVec.ofInt 32 (a : Int) ^^^ BitVec.ofInt 32 (b : Int)).toNat) = ((a ^^^ b : Nat) : Int) := by
    have e1 : BitVec.ofInt 32 (a : Int) = BitVec.ofNat 32 a := rfl
    have e2 : BitVec.ofInt 32 (b : Int) = BitVec.ofNat 32 b := rfl
    have e3 : (BitVec.ofNat 32 a ^^^ BitVec.ofNat 32 b).toNat = a ^^^ b := by
      rw [BitVec.toNat_xor, BitVec.toNat_ofNat, BitVec.toNat_ofNat, Nat.mod_eq_of_lt ha, Nat.mod_eq_of_lt hb]
    rw [e1, e2, e3]; exact wrapU32 (by omega) (by omega)
  simp only [evBin, if_true]; exact congrArg (fun z => some (Value.int .u32 z)) h3
theorem xorB {P : Program} {t : TypeId} (a b : Nat) (ha : a < 256) (hb : b < 256) : evBin P .xor t (bv a) (bv b) = some (bv (a ^^^ b)) := by
  have hlt : a ^^^ b < 2 ^ 8 := Nat.xor_lt_two_pow ha hb
  have h3 : IntKind.u8.wrap ((BitVec.ofInt 8 (a : Int) ^^^ BitVec.ofInt 8 (b : Int)).toNat) = ((a ^^^ b : Nat) : Int) := by
    have e1 : BitVec.ofInt 8 (a : Int) = BitVec.ofNat 8 a := rfl
    have e2 : BitVec.ofInt 8 (b : Int) = BitVec.ofNat 8 b := rfl
    have e3 : (BitVec.ofNat 8 a ^^^ BitVec.ofNat 8 b).toNat = a ^^^ b := by
      rw [BitVec.toNat_xor, BitVec.toNat_ofNat, BitVec.toNat_ofNat, Nat.mod_eq_of_lt ha, Nat.mod_eq_of_lt hb]
    rw [e1, e2, e3]; exact wrapU8 (by omega) (by omega)
  simp only [evBin, if_true]; exact congrArg (fun z => some (Value.int .u8 z)) h3
theorem shlU {P : Program} {t : TypeId} (a j p : Nat) (k2 : IntKind) (hj : j ≤ 32) (hp : 2 ^ j = p) : evBin P .shl t (uv a) (.int k2 (j : Int)) = some (uv (a * p % 4294967296)) := by
  have h1 : ¬ (j : Int) < 0 := by omega
  have h2 : min (j : Int).toNat IntKind.u32.bits = j := by simp [IntKind.bits]; omega
  simp only [evBin, if_neg h1, h2]
  have : (a : Int) * 2 ^ j = ((a * p : Nat) : Int) := by subst hp; simp
  rw [this, wrapU32m]
theorem notU (a : Nat) (ha : a < 4294967296) : evUn .xor (uv a) = some (uv (4294967295 ^^^ a)) := by
  have hlt : 4294967295 ^^^ a < 2 ^ 32 := Nat.xor_lt_two_pow (by omega) ha
  have h3 : IntKind.u32.wrap ((BitVec.ofInt 32 4294967295 ^^^ BitVec.ofInt 32 (a : Int)).toNat) = ((4294967295 ^^^ a : Nat) : Int) := by
    have e1 : BitVec.ofInt 32 (a : Int) = BitVec.ofNat 32 a := rfl
    have e2 : BitVec.ofInt 32 4294967295 = BitVec.ofNat 32 4294967295 := rfl
    have e3 : (BitVec.ofNat 32 4294967295 ^^^ BitVec.ofNat 32 a).toNat = 4294967295 ^^^ a := by
      rw [BitVec.toNat_xor, BitVec.toNat_ofNat, BitVec.toNat_ofNat, Nat.mod_eq_of_lt ha]
    rw [e1, e2, e3]; exact wrapU32 (by omega) (by omega)
  simp only [evUn]; exact congrArg (fun z => some (Value.int .u32 z)) h3
def crcRow (x : Nat) : Nat := (x * 2 % 4294967296) ^^^ (x / 2147483648 * 79764919)
def crcB : Nat → Nat → Nat
  | 0, x => x
  | n + 1, x => crcB n (crcRow x)
def crcT (b : Nat) : Nat := crcB 8 (b * 16777216 % 4294967296)
def crcStep (x b : Nat) : Nat := (x * 256 % 4294967296) ^^^ crcT (x / 16777216 ^^^ b)
def crcOf (s : List Nat) : Nat := 4294967295 ^^^ s.foldl crcStep 4294967295
def crcCom (x b : Nat) : Nat := (x * 2 % 4294967296 ^^^ x / 2147483648) ^^^ b
theorem crcRow_lt {x : Nat} (h : x < 4294967296) : crcRow x < 4294967296 := by
  have : x / 2147483648 < 2 := by omega
  exact Nat.xor_lt_two_pow (n := 32) (by omega) (by omega)
theorem crcB_lt : ∀ (n : Nat) {x : Nat}, x < 4294967296 → crcB n x < 4294967296
  | 0, _, h => h
  | n + 1, _, h => crcB_lt n (crcRow_lt h)
theorem crcT_lt (b : Nat) : crcT b < 4294967296 := crcB_lt 8 (by omega)
theorem crcStep_lt (x b : Nat) : crcStep x b < 4294967296 := Nat.xor_lt_two_pow (n := 32) (by omega) (crcT_lt _)
theorem crcB_add (m n x : Nat) : crcB (m + n) x = crcB n (crcB m x) := by
  induction m generalizing x with
  | zero => simp [crcB]
  | succ m ih => rw [Nat.succ_add]; simp only [crcB]; exact ih _
def tabV : List Value := (List.range 256).map fun b => uv (crcT b)
theorem tab_get {b : Nat} (h : b < 256) : tabV[b]? = some (uv (crcT b)) := by
  rw [tabV, List.getElem?_map, List.getElem?_range h]; rfl
theorem tab_len : tabV.length = 256 := by simp [tabV]
theorem z232 : Tryz.t232.zero = some (.agg (List.replicate 256 (uv 0)).toArray) := by kernel_rfl
theorem z232p : plain (.agg (List.replicate 256 (uv 0)).toArray) = true := by kernel_rfl
theorem z235 : Tryz.t235.zero = some (.agg (List.replicate 257 (uv 0)).toArray) := by kernel_rfl
theorem z235p : plain (.agg (List.replicate 257 (uv 0)).toArray) = true := by kernel_rfl
theorem built235 : Program.built Tryz.prog 235 [(0, .agg tabV.toArray), (1, uv 4294967295)] = some (tabV ++ [uv 4294967295]).toArray := by kernel_rfl
theorem tab_all : tabV.all oneCell = true := by
  rw [List.all_eq_true]; intro v hv
  obtain ⟨b, _, rfl⟩ := (by simpa [tabV] using hv : ∃ b, b < 256 ∧ uv (crcT b) = v)
  rfl
attribute [irreducible] tabV
section
variable {ov : OvT} (H : OvH ov)
include H
theorem table_cr {h : Heap} {c : Nat} :
    CR Tryz.prog ov 174 [] ⟨h, c⟩ (fun v st => v = .agg tabV.toArray ∧ Keep [] h c st) := by
  refine e_0 Tryz.func174 rfl (H _ (by decide)) Tryz.ntmps174 ?_
  intro env U
  refine sg 1 J (qZ i232 z232 z232p (nK (sg 1 J (qZ i232 z232 z232p (nK (rS (sg 1 J (qM U J (nK (rB ?_))))))))))
  refine rL (fun m env' s' => ∃ k V0 V, m = 256 - k ∧ k ≤ 256 ∧ Hd 26 [(0, ptr c), (1, ptr (c + 1)), (5, nv k)] env' ∧ s'.heap.get c = some ⟨V0, 232, 0⟩ ∧ V0.length = 256 ∧ s'.heap.get (c + 1) = some ⟨V, 232, 0⟩ ∧ V.length = 256 ∧ (∀ i, i < k → V[i]? = some (uv (crcT i))) ∧ c + 2 ≤ s'.ctr ∧ Keep [] h c s') 256 ?_ ?_
  · refine ⟨0, List.replicate 256 (uv 0), List.replicate 256 (uv 0), rfl, by omega, Ho U ⟨rfl, rfl, rfl, trivial⟩, ?_, by simp, ?_, by simp, fun i hi => by omega, by dsimp only; omega, ((Keep.refl (Nat.le_refl c)).set (.inl oA)).set (.inl oA) |>.up oA⟩
    · dsimp only; rw [T.get_set, if_neg (by omega), T.get_set, if_pos (by omega)]; rfl
    · dsimp only; rw [T.get_set, if_pos rfl]; rfl
  rintro m _ ⟨h2, c2⟩ ⟨k, V0, V, rfl, hk, ⟨env, U, rfl⟩, hb0, hV0, hb, hV, hVg, hc2, hK⟩
  dsimp only at hb0 hb hc2
  refine sg 1 J (qB U J J J (nK (rS ?_)))
  refine rC U rfl (fun hk2 => ?_) (fun hk2 => ?_)
  · try simp only [dz, dy] at hk2
    refine rK (kN (rS (rB (sg 2 J (qM U J (qA U J (nK (sg 4 J (qM U J (qH U J Tryz.underlying3 Tryz.underlying38 wA ?_))))))))))
    refine qB U J J (shlU _ 24 16777216 _ oA J) ?_
    refine qA U J (nK (rS (sg 1 J (qM U J (nK (rB ?_))))))
    refine rL (fun m env' s' => ∃ j, m = 8 - j ∧ j ≤ 8 ∧ Hd 26 [(0, ptr c), (1, ptr (c + 1)), (5, nv k), (2, nv k), (3, uv (crcB j (k * 16777216 % 4294967296))), (11, nv j)] env' ∧ s'.heap = h2 ∧ c2 ≤ s'.ctr) 8 ?_ ?_
    · exact ⟨0, rfl, by omega, Ho U ⟨rfl, rfl, rfl, rfl, rfl, rfl, trivial⟩, rfl, by dsimp only; omega⟩
    rintro m _ ⟨h3, c3⟩ ⟨j, rfl, hj, ⟨env, U, rfl⟩, he, hc3⟩
    dsimp only at he hc3
    subst he
    refine sg 1 J (qB U J J J (nK (rS ?_)))
    refine rC U rfl (fun hj2 => ?_) (fun hj2 => ?_)
    · try simp only [dz, dy] at hj2
      obtain ⟨y, hy⟩ : ∃ y, y = crcB j (k * 16777216 % 4294967296) := ⟨_, rfl⟩
      have hylt : y < 4294967296 := by rw [hy]; exact crcB_lt _ (by omega)
      rw [← hy]
      have hs : crcB (j + 1) (k * 16777216 % 4294967296) = crcRow y := by rw [crcB_add, ← hy]; rfl
      refine rK (kN (rS (rB (sg 3 J (qM U J (qB U rfl rfl (shrP .u32 _ 2147483648 _ _ ⟨by omega, by decide⟩ rfl) ?_))))))
      refine qA U J (nK (rg 6 J (qM U J (qB U J J (shlU _ 1 2 _ oA J) ?_))))
      refine qM U J (q_mul U rfl rfl (m := ((y / 2147483648 * 79764919 : Nat) : Int)) (by rw [wrapU32 oA oA]; omega) ?_)
      refine qB U J J (xorU _ _ oA oA) ?_
      refine qA U J (rN (kO (kN (rg 2 J (qP U J J wA ?_)))))
      refine qM U J (nK ?_)
      exact ⟨8 - (j + 1), by omega, j + 1, rfl, by omega, Ho U ⟨rfl, rfl, rfl, rfl, by rw [hs]; rfl, rfl, trivial⟩, rfl, by dsimp only; omega⟩
    · try simp only [dz, dy] at hj2
      have ej : j = 8 := by omega
      subst ej
      refine r_exit (kE (kE (kB (kN (rg 4 J (qM U J (qM U J (q_indexAddrA U rfl rfl Tryz.underlying232 i38 s38 ⟨by omega, by omega⟩ ?_))))))))
      refine qW U rfl rfl gA p38 rfl rfl (by simp [hV]; omega) ?_
      refine rN (kO (kN (rg 2 J (qP U J J wA ?_))))
      refine qM U J (nK ?_)
      refine ⟨256 - (k + 1), by omega, k + 1, V0, V.set k (uv (crcT k)), rfl, by omega, Ho U ⟨rfl, rfl, rfl, trivial⟩, ?_, hV0, ?_, by simp [hV], fun i hi => ?_, by dsimp only; omega, (hK.up oA).set (.inl oA)⟩
      · dsimp only; rw [T.get_set, if_neg (by omega)]; exact hb0
      · dsimp only; rw [T.get_set, if_pos rfl, show 0 + ((k : Nat) : Int).toNat * 1 = k by omega]; rfl
      · rw [List.getElem?_set]; split
        · rename_i e; subst e; rw [if_pos (by omega)]
        · exact hVg i (by omega)
  · try simp only [dz, dy] at hk2
    have ek : k = 256 := by omega
    subst ek
    have hVt : V = tabV := by apply List.ext_getElem?; intro i; rcases Nat.lt_or_ge i 256 with q | q; (rw [hVg i q, tab_get q]); (rw [List.getElem?_eq_none (by omega), List.getElem?_eq_none (by rw [tab_len]; omega)])
    subst hVt
    have hset : setCells V0 0 (Value.agg tabV.toArray).cells.toList = tabV := by rw [setCells_eq _ _ _ (by simp [Value.cells, tab_len, hV0])]; simp [Value.cells, tab_len, hV0]
    refine r_exit (kE (kE (kB (kN (sg 2 J (qL U rfl gA (by exact (p232.1 _ _).trans (by rw [if_pos (by simp [tab_len])]; simp only [List.drop_zero]; rw [List.take_of_length_le (by simp [tab_len])])) (v := .agg tabV.toArray) ?_))))))
    refine qV U rfl rfl gA p232 (by simp [Value.cells, tab_len]) (by rw [show (Value.agg tabV.toArray).cells.toList = tabV by simp [Value.cells]]; exact tab_all) (by simp [hV0]) ?_
    refine nK (rR (f_c U rfl (.inl rfl) rfl  (T.get_set _ _ _ _ |>.trans (if_pos rfl)) (by dsimp only; rw [hset, p232.1, if_pos (by simp [tab_len])]; simp only [List.drop_zero]; rw [List.take_of_length_le (by simp [tab_len])]) (v := .agg tabV.toArray) ?_))
    exact ⟨rfl, (hK.up (by omega)).set (.inl (by omega))⟩
def SuR (x b : Nat) (g : Nat → Option Blk) : Prop := x < 4294967296 ∧ g b = some ⟨tabV ++ [uv x], 235, 0⟩
omit H in
theorem su_get (x : Nat) : (tabV ++ [uv x])[0 + 256]? = some (uv x) := by
  rw [List.getElem?_append_right (by rw [tab_len]; omega)]; simp [tab_len]
omit H in
theorem su_set (x y : Nat) : (tabV ++ [uv x]).set (0 + 256) (uv y) = tabV ++ [uv y] := by
  rw [List.set_append_right _ _ (by rw [tab_len]; omega)]; simp [tab_len]
theorem suNew_cr {h : Heap} {c : Nat} :
    CR Tryz.prog ov 140 [] ⟨h, c⟩ (fun v st => ∃ b, v = ptr b ∧ SuR 4294967295 b st.heap.get ∧ c ≤ b ∧ b < st.ctr ∧ Keep [] h c st) := by
  refine e_0 Tryz.func140 rfl (H _ (by decide)) Tryz.ntmps140 ?_
  intro env U
  refine sg 1 J (qA U J (nK (sg 4 J (qC U J (CR.mono (table_cr H) ?_)))))
  rintro v ⟨hh1, cc1⟩ ⟨rfl, hK⟩
  have hcc1 := hK.1
  dsimp only at hcc1
  refine qU U J i235 z235 z235p built235 (q_box U J (qA U J (nK (rR (f_1 U J (.inl J) J ?_)))))
  refine ⟨_, rfl, ⟨by omega, ?_⟩, by omega, by dsimp only; omega, (hK.base oA).set (.inl oA)⟩
  dsimp only; rw [T.get_set, if_pos rfl]; simp [Value.cells]
theorem suStep_cr {h : Heap} {c b x y : Nat} (hP : SuR x b h.get) (hy : y < 256) :
    CR Tryz.prog ov 198 [ptr b, uv x, bv y] ⟨h, c⟩ (fun v st => v = uv (crcStep x y) ∧ Same h c st) := by
  obtain ⟨hx, hb⟩ := hP
  have hz : x / 16777216 ^^^ y < 2 ^ 8 := Nat.xor_lt_two_pow (by omega) hy
  refine e_3 Tryz.func198 rfl (H _ (by decide)) Tryz.ntmps198 (by decide) ?_
  intro env U
  refine sg 1 J (qA U J (nK (sg 13 J (qM U J (qB U J J (shlU _ 8 256 _ oA J) ?_)))))
  refine qM U J (qM U J (qB U rfl rfl (shrP .u32 _ 16777216 _ _ ⟨by omega, by decide⟩ rfl) ?_))
  refine qH U J Tryz.underlying38 Tryz.underlying5 wA ?_
  refine qM U J (qB U J J (xorB _ _ oA hy) ?_)
  refine qN U J (q_indexAddrA U rfl rfl Tryz.underlying232 i38 s38 ⟨by omega, by omega⟩ ?_)
  refine qL U rfl aA (by exact (p38.1 _ _).trans (by rw [show 0 + ((x / 16777216 ^^^ y : Nat) : Int).toNat * 1 = (x / 16777216 ^^^ y) by omega, List.getElem?_append_left (by rw [tab_len]; omega)]; exact tab_get oA)) (v := uv (crcT (x / 16777216 ^^^ y))) ?_
  refine qB U J J (xorU _ _ oA (crcT_lt _)) ?_
  refine qA U J (nK (rR (f_1 U J (.inl J) J ?_)))
  exact ⟨rfl, rfl, by simp <;> omega⟩
theorem suPut_cr {h : Heap} {c b x y : Nat} (hP : SuR x b h.get) (hc : b < c) (hy : y < 256) :
    CR Tryz.prog ov 175 [ptr b, bv y] ⟨h, c⟩ (fun v st => SuR (crcStep x y) b st.heap.get ∧ Keep [b] h c st) := by
  obtain ⟨hx, hb⟩ := id hP
  refine e_2 Tryz.func175 rfl (H _ (by decide)) Tryz.ntmps175 (by decide) ?_
  intro env U
  refine sg 2 J (qM U J (qB U J J (nn149 _) (nK (rT U J dA ?_))))
  refine rD [] (by decide +kernel) (by decide +kernel) (n := 13) rfl ?_
  refine qM U J (qM U J (qN U J (qF U J fa235_0 (qM U J (qN U J (qF U J fa235_1 (qL U J aA ((p38.1 _ _).trans (su_get x)) (v := uv x) ?_)))))))
  refine qM U J (qC U J (CR.mono (suStep_cr H hP hy) ?_))
  rintro v ⟨hh1, cc1⟩ ⟨rfl, rfl, hk⟩
  try dsimp only at hk
  refine qN U J (qF U J fa235_1 (qW U rfl rfl aA p38 rfl rfl (by simp [tab_len]) ?_))
  refine ro_nild (f_0 J (.inr J) ?_)
  refine ⟨⟨crcStep_lt x y, ?_⟩, ((Keep.refl (Nat.le_refl c)).set (nm := b) (.inr (by simp))).up oA⟩
  dsimp only; rw [T.get_set, if_pos rfl, su_set]
theorem suValue_cr {h : Heap} {c b x : Nat} (hP : SuR x b h.get) :
    CR Tryz.prog ov 142 [ptr b] ⟨h, c⟩ (fun v st => v = uv (4294967295 ^^^ x) ∧ Same h c st) := by
  obtain ⟨hx, hb⟩ := hP
  refine e_1 Tryz.func142 rfl (H _ (by decide)) Tryz.ntmps142 (by decide) ?_
  intro env U
  refine sg 1 J (qA U J (nK (rS (sg 2 J (qM U J (qB U J J (nq149 _) (nK (rF U J dA ?_))))))))
  refine rK (kN (sg 6 J (qM U J (qN U J (qF U J fa235_1 (qL U J aA ((p38.1 _ _).trans (su_get x)) (v := uv x) ?_))))))
  refine q_un U J (notU x hx) (qA U J (nK (rR (f_1 U J (.inl J) J ?_))))
  exact ⟨rfl, rfl, by simp <;> omega⟩
theorem suText_cr {h : Heap} {c b : Nat} {s : List Nat} (hP : SuR 4294967295 b h.get) (hc : b < c) (h256 : ∀ x ∈ s, x < 256) (hn : s.length ≤ 2 ^ 40) :
    CR Tryz.prog ov 141 [ptr b, .string (txt s)] ⟨h, c⟩ (fun v st => SuR (s.foldl crcStep 4294967295) b st.heap.get ∧ Keep [b] h c st) := by
  have hsz := txt_size s
  refine e_2 Tryz.func141 rfl (H _ (by decide)) Tryz.ntmps141 (by decide) ?_
  intro env U
  refine sg 3 J (qM U J (qK U J Tryz.underlying9 ?_))
  rw [hsz]
  refine qM U J (nK (rB ?_))
  refine rL (fun m env' s' => ∃ j, m = s.length - j ∧ j ≤ s.length ∧ Hd 16 [(0, ptr b), (1, .string (txt s)), (6, nv s.length), (7, nv j)] env' ∧ SuR ((s.take j).foldl crcStep 4294967295) b s'.heap.get ∧ Keep [b] h c s') s.length ?_ ?_
  · exact ⟨0, rfl, Nat.zero_le _, Ho U ⟨rfl, rfl, rfl, rfl, trivial⟩, hP, Keep.refl (by omega)⟩
  rintro m _ ⟨h2, c2⟩ ⟨j, rfl, hj, ⟨env, U, rfl⟩, hP2, hK⟩
  dsimp only at hP2
  have hcc := hK.1
  dsimp only at hcc
  refine sg 1 J (qB U J J J (nK (rS ?_)))
  refine rC U rfl (fun hjn => ?_) (fun hjn => ?_)
  · try simp only [dz, dy] at hjn
    obtain ⟨x, hx⟩ : ∃ x, s[j]? = some x := ⟨_, List.getElem?_eq_getElem (by omega)⟩
    have hx2 := h256 x (List.mem_of_getElem? hx)
    have hxn : (UInt8.ofNat x).toNat = x := by simp [UInt8.toNat_ofNat, Nat.mod_eq_of_lt hx2]
    refine rK (kN (rS (rB (sg 2 J (qM U J (qA U J (nK (rg 5 J (qM U J (qM U J (qM U J (qJ U J J Tryz.underlying9 oA (txt_get hx) ?_))))))))))))
    simp only [hxn]
    refine qC U J (CR.mono (suPut_cr H hP2 oA hx2) ?_)
    rintro v ⟨hh1, cc1⟩ ⟨hP3, hK3⟩
    refine rN (kO (kN (rg 2 J (qP U J J wA ?_))))
    refine qM U J (nK ?_)
    have htk : (s.take (j + 1)).foldl crcStep 4294967295 = crcStep ((s.take j).foldl crcStep 4294967295) x := by rw [List.take_add_one, hx, List.foldl_append]; rfl
    exact ⟨s.length - (j + 1), by omega, j + 1, rfl, by omega, Ho U ⟨rfl, rfl, rfl, rfl, trivial⟩, by rw [htk]; exact hP3, ((hK.up (by omega)).call hK3 (fun z hz => .inr hz)).up (by omega)⟩
  · try simp only [dz, dy] at hjn
    refine r_exit (kE (kE (kB (f_0 J (.inr J) ?_))))
    have ej : j = s.length := by omega
    subst ej
    rw [List.take_length] at hP2
    exact ⟨hP2, hK.up (by omega)⟩
theorem crcOf_cr {h : Heap} {c : Nat} {s : List Nat} (h256 : ∀ x ∈ s, x < 256) (hn : s.length ≤ 2 ^ 40) :
    CR Tryz.prog ov 108 [.string (txt s)] ⟨h, c⟩ (fun v st => v = uv (crcOf s) ∧ Keep [] h c st) := by
  refine e_1 Tryz.func108 rfl (H _ (by decide)) Tryz.ntmps108 (by decide) ?_
  intro env U
  refine sg 1 J (qA U J (nK (sg 2 J (qC U J (CR.mono (suNew_cr H) ?_)))))
  rintro v ⟨hh1, cc1⟩ ⟨b, rfl, hP, hb1, hb2, hK⟩
  refine qA U J (nK (sg 3 J ?_))
  have hcc1 := hK.1
  dsimp only at hcc1 hP hb2
  refine qM U J (qM U J (qC U J (CR.mono (suText_cr H hP oA h256 hn) ?_)))
  rintro v ⟨hh2, cc2⟩ ⟨hP2, hK2⟩
  refine nK (sg 3 J ?_)
  have hcc2 := hK2.1
  dsimp only at hcc2 hP2
  refine qM U J (qC U J (CR.mono (suValue_cr H hP2) ?_))
  rintro v ⟨hh3, cc3⟩ ⟨rfl, rfl, hk⟩
  try dsimp only at hk
  refine qA U J (nK (rR (f_1 U J (.inl J) J ?_)))
  exact ⟨rfl, (((hK.base (by omega)).up (c3 := cc1 + 3) (by omega)).call hK2 (fun z hz => by simp only [List.mem_singleton] at hz; left; omega)).up (by omega)⟩
theorem combine_cr {h : Heap} {c x y : Nat} (hx : x < 4294967296) (hy : y < 4294967296) :
    CR Tryz.prog ov 156 [uv x, uv y] ⟨h, c⟩ (fun v st => v = uv (crcCom x y) ∧ Same h c st) := by
  have h1 : x * 2 % 4294967296 ^^^ x / 2147483648 < 2 ^ 32 := Nat.xor_lt_two_pow (by omega) (by omega)
  refine e_2 Tryz.func156 rfl (H _ (by decide)) Tryz.ntmps156 (by decide) ?_
  intro env U
  refine sg 1 J (qA U J (nK (sg 8 J (qM U J (qB U J J (shlU _ 1 2 _ oA J) ?_)))))
  refine qM U J (qB U rfl rfl (shrP .u32 _ 2147483648 _ _ ⟨by omega, by decide⟩ rfl) ?_)
  refine qB U J J (xorU _ _ oA oA) ?_
  refine qM U J (qB U J J (xorU _ _ oA hy) ?_)
  refine qA U J (nK (rR (f_1 U J (.inl J) J ?_)))
  exact ⟨rfl, rfl, by simp <;> omega⟩
theorem room_cr {h : Heap} {c : Nat} {u : Int} :
    CR Tryz.prog ov 70 [nv 1, iv u] ⟨h, c⟩ (fun v st => (∃ x, v = .tuple #[x, nv (if 24 ≤ u ∧ u ≤ 100000 then 0 else 1)]) ∧ Same h c st) := by
  refine e_2 Tryz.func70 rfl (H _ (by decide)) Tryz.ntmps70 (by decide) ?_
  intro env U
  refine sg 2 J (qA U J (qA U J (nK (rS (sg 14 J (qM U J (qB U J J J (qM U J (qG U J J J J (qM U J (qG U J J J J (qB U J J J (qQ U J J J (J) (qM U J (qG U J J J J (qM U J (qG U J J J J (qB U J J J (qQ U J J J (J) (qM U J ?_))))))))))))))))))))
  refine q_case U (rfl : lk _ _ 16 = _) (fun h1 => ?_) (fun h1 => ?_)
  · have h1_ := h1
    try simp only [dz] at h1_
    refine qS U rfl rfl rfl rfl (by rw [h1]; decide) ?_
    refine qS U rfl rfl rfl rfl (by rw [h1]; decide) ?_
    refine qQ U J J J (if_pos h1) (nK (rT U rfl (by rfl) ?_))
    refine sg 2 J (qA U J (qA U J (nK (rR (kR (f_2 U J (.inl J) J J ?_))))))
    refine ⟨⟨iv 0, ?_⟩, rfl, by simp <;> omega⟩
    rw [if_neg (by omega)]; rfl
  · have h1_ := h1
    try simp only [dz] at h1_
    refine qG U J J J h1 (qM U J (qG U J J J h1 (qB U J J J (qQ U rfl rfl rfl (if_neg (by rw [h1]; decide)) ?_))))
    refine nK ?_
    refine rC U rfl (fun h2 => ?_) (fun h2 => ?_)
    · try simp only [dz, dy] at h2
      refine sg 2 J (qA U J (qA U J (nK (rR (kR (f_2 U J (.inl J) J J ?_))))))
      refine ⟨⟨iv 0, ?_⟩, rfl, by simp <;> omega⟩
      rw [if_neg (by omega)]; rfl
    · try simp only [dz, dy] at h2
      refine rK (kN (sg 6 J (qM U J (qM U J (q_mul U J J wA ?_)))))
      refine q_sub U J J wA ?_
      refine qA U J (qA U J (nK (rR (f_2 U J (.inl J) J J ?_))))
      refine ⟨⟨iv (1 * u - 19), ?_⟩, rfl, by simp <;> omega⟩
      rw [if_pos (by omega)]; rfl
end
end Go.Proofs.YtegjkhgaoabfcaaGreat
namespace Go.AE
theorem CR_ov {P : Program} {ov : OvT} {f : FuncId} {fn : Func} {g : List Value → St → Option (Value × St)} {c : Code} {args : List Value} {s s' : St} {v : Value} {Q : Value → St → Prop} (hf : P.funcs[f]? = some fn) (hb : fn.body = some c) (ho : ov f = some g) (hg : g args s = some (v, s')) (hq : Q v s') : CR P ov f args s Q :=
  ⟨1, v, s', by simp only [evCall, hf, hb, ho, hg], hq⟩
end Go.AE
namespace Go.Proofs.YtegjkhgaoabfcaaGreat
open Go.AE
def strB (args : List Value) (st : St) : Option (Value × St) :=
  match args with
  | [.pointer (some ⟨b, 0, none⟩)] => match st.heap.get b with
    | some ⟨[_, .slice none 0 0], _, 0⟩ => some (.string ⟨#[]⟩, st)
    | some ⟨[_, .slice (some ⟨a, 0, none⟩) n _], _, 0⟩ => match st.heap.get a with
      | some ⟨cs, e, 1⟩ => if e = 5 ∧ cs.length = n ∧ n ≠ 0 ∧ n ≤ 9223372036854775807 then (bytesOf cs).map fun bs => (.string ⟨bs.toArray⟩, ⟨st.heap.del a, st.ctr⟩) else none
      | _ => none
    | _ => none
  | _ => none
def chkB (args : List Value) (st : St) : Option (Value × St) :=
  match args with
  | [.pointer (some ⟨b, 0, none⟩)] => match st.heap.get b with
    | some ⟨[.pointer none, s], e, 0⟩ => if e = 104 then some (.tuple #[], ⟨st.heap.set b ⟨[.pointer (some ⟨b, 0, none⟩), s], e, 0⟩, st.ctr⟩) else none
    | some ⟨[.pointer (some ⟨b2, 0, none⟩), s], e, 0⟩ => if b2 = b then some (.tuple #[], st) else none
    | _ => none
  | _ => none
structure OvB (ov : OvT) : Prop where
  h : OvH ov
  o63 : ov 63 = some strB
  o109 : ov 109 = some chkB
  o65 : ov 65 = none
def BuR (bs : List Nat) (b : Nat) (a : Option Addr) (g : Nat → Option Blk) : Prop := (∀ x ∈ bs, x < 256) ∧ ∃ p cp, (p = .pointer none ∨ p = ptr b) ∧ g b = some ⟨[p, .slice a bs.length cp], 104, 0⟩ ∧ SlR 5 1 (bs.map bv) a bs.length cp g
theorem BuR.move {bs : List Nat} {b : Nat} {a : Option Addr} {g g' : Nat → Option Blk} (h : BuR bs b a g) (hg : ∀ z, z = b ∨ z ∈ own a → g' z = g z) : BuR bs b a g' := by
  obtain ⟨h0, p, cp, h1, h2, h3⟩ := h
  exact ⟨h0, p, cp, h1, (hg b (.inl rfl)).trans h2, h3.move (fun z hz => hg z (.inr hz))⟩
def openR (last : List Nat) (o sum : Nat) : Except Nat (List Nat) := match unpk 0 0 (unbw last o) with
  | .error _ => .error 25
  | .ok out => if crcOf out = sum then .ok out else .error 21
theorem unbw_len (s : List Nat) (o : Nat) : (unbw s o).length = s.length := by simp [unbw, outI]
theorem unbw_lt {s : List Nat} {o : Nat} (h : ∀ x ∈ s, x < 256) : ∀ x ∈ unbw s o, x < 256 := by
  intro x hx
  simp only [unbw, outI, List.mem_map] at hx
  obtain ⟨i, _, rfl⟩ := hx
  rw [List.getD_eq_getElem?_getD]
  cases hq : s[atI (ordU s 256) o (i + 1)]? with
  | none => simp
  | some y => exact h y (List.mem_of_getElem? hq)
theorem unpk_len {s : List Nat} (h : ∀ x ∈ s, x < 256) : ∀ {run p : Nat} {out : List Nat}, unpk run p s = .ok out → out.length ≤ 251 * s.length := by
  induction s with
  | nil => intro run p out h; simp only [unpk] at h; split at h <;> cases h; simp
  | cons x s ih =>
    intro run p out hu
    simp only [unpk] at hu
    have ih' := fun {run p out} => ih (fun y hy => h y (by simp [hy])) (run := run) (p := p) (out := out)
    split at hu
    · split at hu
      · cases hu
      · cases hq : unpk 0 x s with
        | error e' => rw [hq] at hu; cases hu
        | ok y => rw [hq] at hu; cases hu; have := ih' hq; simp; omega
    · split at hu
      · cases hq : unpk (run + 1) x s with
        | error e' => rw [hq] at hu; cases hu
        | ok y => rw [hq] at hu; cases hu; have := ih' hq; simp; omega
      · cases hq : unpk 1 x s with
        | error e' => rw [hq] at hu; cases hu
        | ok y => rw [hq] at hu; cases hu; have := ih' hq; simp; omega
section
variable {ov : OvT} (H : OvH ov)
include H
theorem open_cr {h : Heap} {c o sum : Nat} {s : List Nat} (h256 : ∀ x ∈ s, x < 256) (hn : s.length ≤ 900000) (ho : o < s.length) (hs : sum < 4294967296) :
    CR Tryz.prog ov 64 [.agg #[.string (txt s), nv o, uv sum]] ⟨h, c⟩ (fun v st => (match openR s o sum with
      | .ok out => v = .tuple #[.string (txt out), nv 0] ∧ (∀ x ∈ out, x < 256) ∧ out.length ≤ 225900000
      | .error e => v = .tuple #[nostr, nv e] ∧ e ≠ 0) ∧ Keep [] h c st) := by
  have hD := fun (h' : Heap) (c' : Nat) => decode_cr H (h := h') (c := c') (unbw_lt (o := o) h256) (by rw [unbw_len]; exact hn)
  cases hu : unpk 0 0 (unbw s o) with
  | error e =>
    have he := unpk_err hu
    have ho' : openR s o sum = .error 25 := by simp only [openR, hu]
    rw [ho']
    simp only [hu] at hD
    refine e_1 Tryz.func64 rfl (H _ (by decide)) Tryz.ntmps64 (by decide) ?_
    intro env U
    refine sg 3 J (q_box U J (qA U J (qA U J (nK (sg 10 J (qF U J fa40_0 (qL U J gA ((p9.1 _ _).trans J) ?_)))))))
    refine qF U J fa40_1 (qL U J gA ((p3.1 _ _).trans J) ?_)
    refine qC U J (CR.mono (unbwtOf_cr H h256 hn ho) ?_)
    rintro v ⟨hh1, cc1⟩ ⟨rfl, hK⟩
    have hcc1 := hK.1
    dsimp only at hcc1
    refine qM U J (qE U J J (qE U J J (qA U J (qA U J (nK (rS (sg 2 J (qM U J (qB U J J J (nK (rF U J dA ?_)))))))))))
    refine rK (kN (sg 7 J (qM U J (qC U J (CR.mono (hD _ _) ?_)))))
    rintro v ⟨hh2, cc2⟩ ⟨rfl, hK2⟩
    refine qM U J (qE U J J (qE U J J (qA U J (qA U J (nK (rS (rB (sg 3 J (qM U J (qB U J J J (qA U J (nK (rT U rfl (by simp; omega) ?_)))))))))))))
    refine sg 2 J (qA U J (qA U J (nK (rR (k_bloR (kR (f_2 U J (.inl J) J J ?_)))))))
    exact ⟨⟨rfl, by decide⟩, ((((Keep.refl (Nat.le_refl c)).set (.inl (by omega))).call (hK.base (c0 := c) (by omega)) (by simp) |>.up (by omega)).call hK2 (by simp)).up (by omega)⟩
  | ok out =>
    simp only [hu] at hD
    have hol := unpk_len (unbw_lt (o := o) h256) hu
    rw [unbw_len] at hol
    refine e_1 Tryz.func64 rfl (H _ (by decide)) Tryz.ntmps64 (by decide) ?_
    intro env U
    refine sg 3 J (q_box U J (qA U J (qA U J (nK (sg 10 J (qF U J fa40_0 (qL U J gA ((p9.1 _ _).trans J) ?_)))))))
    refine qF U J fa40_1 (qL U J gA ((p3.1 _ _).trans J) ?_)
    refine qC U J (CR.mono (unbwtOf_cr H h256 hn ho) ?_)
    rintro v ⟨hh1, cc1⟩ ⟨rfl, hK⟩
    have hcc1 := hK.1
    dsimp only at hcc1
    have hb1 := (hK.2 (c + 0) (by omega) (by simp)).trans ((T.get_set _ _ _ _).trans (if_pos rfl))
    refine qM U J (qE U J J (qE U J J (qA U J (qA U J (nK (rS (sg 2 J (qM U J (qB U J J J (nK (rF U J dA ?_)))))))))))
    refine rK (kN (sg 7 J (qM U J (qC U J (CR.mono (hD _ _) ?_)))))
    rintro v ⟨hh2, cc2⟩ ⟨⟨rfl, hO⟩, hK2⟩
    refine qM U J ?_
    have hcc2 := hK2.1
    dsimp only at hcc2
    have hb2 := (hK2.2 (c + 0) (by omega) (by simp)).trans hb1
    refine qE U J J (qE U J J (qA U J (qA U J (nK (rS (rB (sg 3 J (qM U J (qB U J J J (qA U J (nK (rF U J dA ?_))))))))))))
    refine rS (rD [(3, 0)] (by decide +kernel) (by decide +kernel) (n := 6) rfl ?_)
    refine qM U J (qC U J (CR.mono (crcOf_cr H hO oA) ?_))
    rintro v ⟨hh3, cc3⟩ ⟨rfl, hK3⟩
    have hcc3 := hK3.1
    dsimp only at hcc3
    have hb3 := (hK3.2 (c + 0) (by omega) (by simp)).trans hb2
    refine qF U J fa40_2 (qL U J gA ((p38.1 _ _).trans J) ?_)
    refine qB U J J J (qA U J ?_)
    refine ro_nilp ?_ ?_
    · exact all1 (pair_load U rfl rfl rfl rfl ((heapAt_old rfl (by omega)).trans hb2) ((p38.1 _ _).trans rfl) rfl (same_int _ _))
    refine kN ?_
    refine rC U rfl (fun hne => ?_) (fun hne => ?_)
    · try simp only [dz, dy] at hne
      refine sg 2 J (qA U J (qA U J (nK (rR (k_bloR (kR (f_2 U J (.inl J) J J ?_)))))))
      have e1 : openR s o sum = .error 21 := by simp only [openR, hu]; rw [if_neg (by omega)]
      rw [e1]
      exact ⟨⟨rfl, by decide⟩, ((((((Keep.refl (Nat.le_refl c)).set (.inl (by omega))).call (hK.base (c0 := c) (by omega)) (by simp)).up (c3 := cc1 + 2 + 7) (by omega)).call hK2 (by simp)).call (hK3.base (c0 := cc2) (by omega)) (by simp)).up (by omega)⟩
    · try simp only [dz, dy] at hne
      refine rK (kO (kN (sg 3 J (qM U J (qA U J (qA U J (nK (rR (f_2 U J (.inl J) J J ?_)))))))))
      have e1 : openR s o sum = .ok out := by simp only [openR, hu]; rw [if_pos (by simp at hne; omega)]
      rw [e1]
      exact ⟨⟨rfl, hO, by omega⟩, ((((((Keep.refl (Nat.le_refl c)).set (.inl (by omega))).call (hK.base (c0 := c) (by omega)) (by simp)).up (c3 := cc1 + 2 + 7) (by omega)).call hK2 (by simp)).call (hK3.base (c0 := cc2) (by omega)) (by simp)).up (by omega)⟩
end
section
variable {ov : OvT} (H : OvB ov)
include H
theorem buString_cr {h : Heap} {c b : Nat} {bs : List Nat} {a : Option Addr} (hP : BuR bs b a h.get) (hl9 : bs.length ≤ 9223372036854775807) :
    CR Tryz.prog ov 63 [ptr b] ⟨h, c⟩ (fun v st => v = .string (txt bs) ∧ Keep (own a) h c st) := by
  obtain ⟨h256, p, cp, hp, hb, hS⟩ := hP
  rcases hS with ⟨h1, rfl, h2, rfl⟩ | ⟨x, rfl, rfl, hg, hlen, hpos⟩
  · have : bs = [] := by simpa using h1
    subst this
    refine CR_ov Tryz.func63 rfl H.o63 (v := .string (txt [])) (s' := ⟨h, c⟩) ?_ ⟨rfl, Keep.refl (Nat.le_refl c)⟩
    simp only [strB, hb]; rfl
  · have U : bs.length = (bs.map bv).length := by simp
    have hby : bytesOf (bs.map bv) = some (bs.map UInt8.ofNat) := by rw [← txt_cells h256]; exact bytesOf_map _
    refine CR_ov Tryz.func63 rfl H.o63 (v := .string (txt bs)) (s' := ⟨h.del x, c⟩) ?_ ⟨rfl, Nat.le_refl c, fun z hz hn => ?_⟩
    · simp only [strB, hb, hg]
      rw [if_pos ⟨trivial, by simp, by omega, hl9⟩, hby]; rfl
    · dsimp only; rw [T.get_del, if_neg (by simpa [own] using hn)]
theorem chk_cr {h : Heap} {c b : Nat} {bs : List Nat} {a : Option Addr} (hP : BuR bs b a h.get) :
    CR Tryz.prog ov 109 [ptr b] ⟨h, c⟩ (fun v st => ∃ cp, st.heap.get b = some ⟨[ptr b, .slice a bs.length cp], 104, 0⟩ ∧ SlR 5 1 (bs.map bv) a bs.length cp st.heap.get ∧ Keep [b] h c st) := by
  obtain ⟨h256, p, cp, hp, hb, hS⟩ := hP
  have hbo := own_ne hS hb (by dsimp only; decide)
  rcases hp with rfl | rfl
  · refine CR_ov Tryz.func109 rfl H.o109 (v := .tuple #[]) (s' := ⟨h.set b ⟨[ptr b, .slice a bs.length cp], 104, 0⟩, c⟩) (by simp only [chkB, hb, if_true]) ⟨cp, (T.get_set _ _ _ _).trans (if_pos rfl), hS.move (fun z hz => ?_), (Keep.refl (Nat.le_refl c)).set (.inr (by simp))⟩
    dsimp only; rw [T.get_set, if_neg (fun e : z = b => hbo (e ▸ hz))]
  · exact CR_ov Tryz.func109 rfl H.o109 (v := .tuple #[]) (s' := ⟨h, c⟩) (by simp only [chkB, hb, if_true]) ⟨cp, hb, hS, Keep.refl (Nat.le_refl c)⟩
theorem buWrite_cr {h : Heap} {c b : Nat} {bs s : List Nat} {a : Option Addr} (hP : BuR bs b a h.get) (hc : b < c ∧ ∀ z ∈ own a, z < c) (hs : ∀ x ∈ s, x < 256) (hl1 : bs.length ≤ 10000000000000) (hl2 : s.length ≤ 1000000000) :
    CR Tryz.prog ov 65 [ptr b, .string (txt s)] ⟨h, c⟩ (fun v st => ∃ a', BuR (bs ++ s) b a' st.heap.get ∧ (∀ z ∈ own a', c ≤ z ∧ z < st.ctr) ∧ Keep (b :: own a) h c st) := by
  have hsz := txt_size s
  have h256 := hP.1
  have hbo : ∀ {g : Nat → Option Blk} {cp : Nat}, g b = some ⟨[ptr b, .slice a bs.length cp], 104, 0⟩ → SlR 5 1 (bs.map bv) a bs.length cp g → b ∉ own a := fun hb hS => own_ne hS hb (by dsimp only; decide)
  refine e_2 Tryz.func65 rfl H.o65 Tryz.ntmps65 (by decide) ?_
  intro env U
  refine sg 2 J (qA U J (qA U J (nK (sg 2 J (qM U J (qC U J (CR.mono (chk_cr H hP) ?_)))))))
  rintro v ⟨hh1, cc1⟩ ⟨cp, hb, hS, hK⟩
  refine nK (sg 10 J ?_)
  have hcc1 := hK.1
  dsimp only at hcc1 hb hS
  have hbo1 := hbo hb hS
  refine qM U J (qM U J (qN U J (qF U J fa104_1 (qL U J gA ((p102.1 _ _).trans J) ?_))))
  refine qM U J (q_append U rfl rfl a102 hS (m := s.length) (new := s.map bv) (by have := txt_cells hs; simp only [srcCells, Option.bind_some, Tryz.underlying9, if_true, hsz]; rw [show (txt s).data.toList = s.map UInt8.ofNat by simp [txt], this]) (by simp) oA oA ?_)
  intro a2 cp3 h4 hS4 hO4 hF4
  have hb4 := (hF4 b (by omega) hbo1).trans hb
  refine qN U J (qF U J fa104_1 (qW U rfl rfl gA p102 rfl rfl (by first | decide | (simp; done) | (simp; omega)) ?_))
  refine nK (sg 4 J (qM U J (qK U J Tryz.underlying9 (qA U J (qA U J (nK (rR (f_2 U J (.inl J) J J ?_))))))))
  have hO5 : ∀ z ∈ own a2, c ≤ z ∧ z ≠ b ∧ z < cc1 + 20 := fun z hz => by have := hO4 z hz; omega
  refine ⟨a2, ⟨fun x hx => ?_, ptr b, cp3, .inr rfl, ?_, ?_⟩, fun z hz => by have := hO4 z hz; dsimp only; omega, ?_⟩
  · rcases List.mem_append.mp hx with q | q; (exact h256 x q); (exact hs x q)
  · dsimp only; rw [T.get_set, if_pos rfl, List.length_append]; rfl
  · rw [List.map_append, List.length_append]; exact hS4.move (fun z hz => by have := (hO5 z hz).2.1; dsimp only; rw [T.get_set, if_neg this])
  · have k1 := (hK.base (c0 := c) (by omega)).weak (W' := b :: own a) (by simp)
    refine (Keep.set (nm := b) ⟨by dsimp only; omega, fun z hz hw => ?_⟩ (.inr (by simp))).up (c2 := cc1 + 10) oA
    simp only [List.mem_cons, not_or] at hw
    exact (hF4 z (by omega) hw.2).trans (k1.2 z hz (by simp [hw.1, hw.2]))
end
end Go.Proofs.YtegjkhgaoabfcaaGreat
