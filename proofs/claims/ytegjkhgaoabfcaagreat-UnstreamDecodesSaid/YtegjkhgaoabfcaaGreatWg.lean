/- Part 7 (a part of the proof of UnstreamWith; no condition). -/
import Derived.Test.YtegjkhgaoabfcaaGreatWf
set_option linter.unusedSimpArgs false
set_option linter.unusedVariables false
set_option maxRecDepth 10000
namespace Go.Proofs.YtegjkhgaoabfcaaGreat
open Go.AE
theorem Co.step_err {c : Co} {l : List Bool} {e : Nat} (h : c.step l = .error e) : e = 3 ∨ e = 22 ∨ e = 25 := by
  rw [Co.step_eq] at h
  split at h
  · cases hs : c.pk.step l with
    | error e => rw [hs] at h; cases h; have := Pk.step_err hs; omega
    | ok y => rw [hs] at h; cases h
  · split at h
    · simp only [Co.tab] at h
      split at h
      · rename_i e' hs; cases h; have := De.step_err hs; omega
      · split at h
        · cases h
        · split at h <;> cases h; simp
    · exact Co.sym_err h
section
variable {ov : OvT} (H : OvH ov)
include H
theorem blSymbol_cr {h : Heap} {c0 p r dr at_ : Nat} {all : List Bool} {b : Bl} {W : List Nat} {x : Rw} (hP : BlR b p W h.get) (hR : BitR all dr at_ (h.get r)) (hc : r < c0 ∧ ∀ z ∈ W, z < c0) (hh : b.head = true) (hrx : b.row = some x) (hw : x.waits = false) (hcd : x.co.done = false) :
    CR Tryz.prog ov 209 [ptr p, ptr r] ⟨h, c0⟩ (fun v st => BlPost h c0 all dr at_ r p W b (b.go (all.drop at_)) v st) := by
  have hrW := hP.r_ne hR
  have hP0 := hP
  obtain ⟨⟨g1, g2, g3, g4, g5, g6, g7, g8⟩, la, cp, rv, rW, hb, hS, hrow, hdis, rfl⟩ := id hP
  rw [hrx] at hrow
  obtain ⟨rb, rfl, hRw⟩ := hrow
  obtain ⟨k1, k2⟩ := g8 x hrx
  obtain ⟨⟨q1, q2, q3, q4, q5⟩, cb, zb, lb, la', cW, hrb, hC, hZ, hM, rfl⟩ := id hRw
  obtain ⟨n1, n2, n3, n4, n5, n6, n7, n8, n9, n10⟩ := Rw.apart hrb rfl hC hZ hM
  have hpR : p ∉ rb :: zb :: lb :: (own la' ++ cW) := kind_ne hRw.kind hb (by dsimp only; decide)
  simp only [List.mem_cons, List.mem_append, not_or] at hrW hpR
  have hpc := hc.2 p (by simp)
  have hrbc := hc.2 rb (by simp)
  have hzbc := hc.2 zb (by simp)
  have hlap : p ∉ own la := own_ne hS hb (by dsimp only; decide)
  have hdw : x.due = 0 ∧ x.place = 0 := by simp [Rw.waits] at hw; exact hw
  have hsub : ∀ z, z ∈ r :: cW → z ∈ r :: p :: (own la ++ rb :: zb :: lb :: (own la' ++ cW)) := by
    intro z hz; simp only [List.mem_cons, List.mem_append] at hz ⊢; rcases hz with q | q <;> simp [q]
  have mk : ∀ (x' : Rw) (cW' : List Nat) (g' : Nat → Option Blk), x'.good → x'.list = x.list → x'.ze.most = b.room → b.last.length + x'.due + (if 0 < x'.place then 1 else 0) = x'.ze.told → g' rb = some ⟨[ptr cb, ptr zb, ptr lb, nv x'.due, nv x'.place], 169, 0⟩ → CoR x'.co cb cW' g' → ZeR x'.ze zb g' → (∀ z, z = p ∨ z ∈ own la ∨ z = lb ∨ z ∈ own la' → g' z = h.get z) → (∀ z ∈ cW', z ∈ cW ∨ c0 ≤ z) → BlR { b with row := some x' } p (p :: (own la ++ rb :: zb :: lb :: (own la' ++ cW'))) g' := by
    intro x' cW' g' w1 w2 w3 w4 w5 w6 w7 w8 w9
    refine ⟨⟨g1, g2, g3, g4, g5, fun q => absurd (hh.symm.trans q) (by decide), fun q => absurd q (by simp), fun y hy => by cases hy; exact ⟨w3, w4⟩⟩, la, cp, ptr rb, rb :: zb :: lb :: (own la' ++ cW'), (w8 p (.inl rfl)).trans hb, hS.move (fun z hz => w8 z (.inr (.inl hz))), ⟨rb, rfl, w1, cb, zb, lb, la', cW', w5, w6, w7, by rw [w2]; exact hM.move (fun z hz => w8 z (by rcases hz with q | q <;> simp [q])), rfl⟩, fun z hz hm => ?_, rfl⟩
    have hzc := hc.2 z (by simp [hz])
    refine hdis z hz ?_
    simp only [List.mem_cons, List.mem_append] at hm ⊢
    rcases hm with q | q | q | q | q
    · exact .inl q
    · exact .inr (.inl q)
    · exact .inr (.inr (.inl q))
    · exact .inr (.inr (.inr (.inl q)))
    · rcases w9 z q with q | q
      · exact .inr (.inr (.inr (.inr q)))
      · omega
  have hgo : b.go (all.drop at_) = (x.step (all.drop at_)).map fun p => ({ b with row := some p.1 }, p.2) := by simp only [Bl.go, hh, Bool.not_true, Bool.false_eq_true, if_false, hrx, hw]
  rw [hgo]; simp only [Rw.step]
  have hH := fun c' (q : c0 ≤ c') => coStep_cr H (c0 := c') hC hR ⟨by omega, fun z hz => by have := hc.2 z (by simp [hz]); omega⟩ hcd
  -- what a step of the code leaves
  have hfr : ∀ z, z = p ∨ z = rb ∨ z = zb ∨ z = lb ∨ z ∈ own la' ∨ z ∈ own la → z < c0 ∧ z ∉ r :: cW := by
    intro z hz
    refine ⟨hc.2 z (by simp only [List.mem_cons, List.mem_append]; rcases hz with q | q | q | q | q | q <;> simp [q]), ?_⟩
    simp only [List.mem_cons, not_or]
    rcases hz with q | q | q | q | q | q
    · subst q; exact ⟨Ne.symm hrW.1, hpR.2.2.2.2⟩
    · subst q; exact ⟨Ne.symm hrW.2.2.1, n4⟩
    · subst q; exact ⟨Ne.symm hrW.2.2.2.1, n7⟩
    · subst q; exact ⟨Ne.symm hrW.2.2.2.2.1, n9⟩
    · exact ⟨fun e => hrW.2.2.2.2.2.1 (e ▸ q), n10 z q⟩
    · exact ⟨fun e => hrW.2.1 (e ▸ q), fun m => hdis z q (by simp [m])⟩
  cases hs : x.co.step (all.drop at_) with
  | error e =>
    have he := Co.step_err hs
    have hne0 : ((e : Int) != 0) = true := by simp; omega
    simp only [hs, CoPost] at hH
    refine e_2 Tryz.func209 rfl (H _ (by decide)) Tryz.ntmps209 (by decide) ?_
    intro env hl
    refine sg 1 rfl (qA hl rfl (nK (sg 14 rfl (qM hl rfl (qN hl rfl (qF hl rfl fa164_0 (qL hl rfl (by assumption) ((p162.1 _ _).trans rfl) ?_)))))))
    refine qN hl rfl (qF hl rfl fa169_0 (qL hl rfl (by assumption) ((p165.1 _ _).trans rfl) ?_))
    refine qM hl rfl (qC hl rfl (CR.mono (hH _ (by omega)) ?_))
    rintro v ⟨hh1, cc1⟩ ⟨⟨rfl, he0, hsh, _, k, hk3, hR2⟩, hK⟩
    refine qM hl rfl (qE hl rfl rfl (qE hl rfl rfl (qA hl rfl (qA hl rfl (nK (rS (sg 6 rfl (qM hl rfl (qB hl rfl rfl rfl (qM hl rfl (qS hl rfl rfl rfl rfl (by rw [hne0]; decide) ?_)))))))))))
    refine qS hl rfl rfl rfl rfl (by rw [hne0]; decide) ?_
    refine qQ hl rfl rfl rfl (if_pos hne0) (nK (rT hl rfl (by rfl) ?_))
    refine sg 2 rfl (qM hl rfl (qA hl rfl (nK (rR (kR (f_1 hl rfl (.inl rfl) rfl ?_))))))
    have e1 : ∀ z, z = p ∨ z = rb ∨ z = zb ∨ z = lb ∨ z ∈ own la' ∨ z ∈ own la → hh1.get z = h.get z := fun z hz => hK.2 z (by have := (hfr z hz).1; omega) (hfr z hz).2
    refine ⟨⟨rfl, he0, fun q => ⟨(hsh q).1, ?_⟩, ⟨_, (e1 p (.inl rfl)).trans hb, rfl⟩, k, hk3, hR2⟩, ((hK.base (by omega)).weak hsub).up (by omega)⟩
    have := mk x cW hh1.get ⟨q1, q2, q3, q4, q5⟩ rfl k1 k2 ((e1 rb (by simp)).trans hrb) (hsh q).2 (hZ.move (e1 zb (by simp))) (fun z hz => e1 z (by rcases hz with q | q | q | q <;> simp [q])) (fun z hz => .inl hz)
    have eb : ({ b with row := some x } : Bl) = b := by rw [← hrx]
    rw [eb] at this; exact this
  | ok y =>
    obtain ⟨c', so, n⟩ := y
    have hok := Co.step_ok hs
    simp only [hs, CoPost] at hH
    cases so with
    | none =>
      simp only at hok hH
      refine e_2 Tryz.func209 rfl (H _ (by decide)) Tryz.ntmps209 (by decide) ?_
      intro env hl
      refine sg 1 rfl (qA hl rfl (nK (sg 14 rfl (qM hl rfl (qN hl rfl (qF hl rfl fa164_0 (qL hl rfl (by assumption) ((p162.1 _ _).trans rfl) ?_)))))))
      refine qN hl rfl (qF hl rfl fa169_0 (qL hl rfl (by assumption) ((p165.1 _ _).trans rfl) ?_))
      refine qM hl rfl (qC hl rfl (CR.mono (hH _ (by omega)) ?_))
      rintro v ⟨hh1, cc1⟩ ⟨⟨rfl, hR2, cW', hC2, hO2⟩, hK⟩
      refine qM hl rfl (qE hl rfl rfl (qE hl rfl rfl (qA hl rfl (qA hl rfl (nK (rS (sg 6 rfl (qM hl rfl (qB hl rfl rfl rfl (qM hl rfl (qG hl rfl rfl rfl rfl (qM hl rfl (qG hl rfl rfl rfl rfl (qB hl rfl rfl rfl (qQ hl rfl rfl rfl (rfl) (nK (rT hl rfl (by first | rfl | (simp only [dz]; omega) | (simp; done) | (simp; omega)) ?_)))))))))))))))))
      refine sg 2 rfl (qM hl rfl (qA hl rfl (nK (rR (kR (f_1 hl rfl (.inl rfl) rfl ?_))))))
      have e1 : ∀ z, z = p ∨ z = rb ∨ z = zb ∨ z = lb ∨ z ∈ own la' ∨ z ∈ own la → hh1.get z = h.get z := fun z hz => hK.2 z (by have := (hfr z hz).1; omega) (hfr z hz).2
      refine ⟨⟨rfl, hR2, _, mk { x with co := c' } cW' hh1.get ⟨q1.trans hok.1.symm, q2, q3, q4.trans hok.2.1.symm, q5⟩ rfl k1 k2 ((e1 rb (by simp)).trans hrb) hC2 (hZ.move (e1 zb (by simp))) (fun z hz => e1 z (by rcases hz with q | q | q | q <;> simp [q])) (fun z hz => (hO2 z hz).imp id (fun q => by have := q.1; omega)), ?_⟩, ((hK.base (by omega)).weak hsub).up (by omega)⟩
      intro z hz; simp only [List.mem_cons, List.mem_append] at hz ⊢
      rcases hz with q | q | q | q | q | q | q
      any_goals (left; simp [q]; done)
      rcases hO2 z q with q6 | q6
      · left; simp [q6]
      · right; dsimp only at *; omega
    | some s =>
      simp only at hok hH
      have hd0 : x.ze.done = false := q4.trans hcd
      have hT := fun (hh1 : Heap) (e1 : hh1.get rb = h.get rb) (e2 : hh1.get zb = h.get zb) (hs : s ≤ x.ze.n + 1) c' (q : c0 ≤ c') => rwTold_cr H (c := c') (e1.trans hrb) (hZ.move e2) ⟨by omega, by omega⟩ hs hd0
      have hss : ∀ {W' : List Nat} {g : Nat → Option Blk}, CoR c' cb W' g → s ≤ x.ze.n + 1 := by
        intro W' g hc'
        have := hc'.1.2.2.2.2.2.2.2.2 s (by rw [hok.2.2]; simp)
        rw [hok.1] at this; omega
      cases hp : x.ze.put s with
      | error e =>
        simp only [hp] at hT ⊢
        refine e_2 Tryz.func209 rfl (H _ (by decide)) Tryz.ntmps209 (by decide) ?_
        intro env hl
        refine sg 1 rfl (qA hl rfl (nK (sg 14 rfl (qM hl rfl (qN hl rfl (qF hl rfl fa164_0 (qL hl rfl (by assumption) ((p162.1 _ _).trans rfl) ?_)))))))
        refine qN hl rfl (qF hl rfl fa169_0 (qL hl rfl (by assumption) ((p165.1 _ _).trans rfl) ?_))
        refine qM hl rfl (qC hl rfl (CR.mono (hH _ (by omega)) ?_))
        rintro v ⟨hh1, cc1⟩ ⟨⟨rfl, hR2, cW', hC2, hO2⟩, hK⟩
        refine qM hl rfl (qE hl rfl rfl (qE hl rfl rfl (qA hl rfl (qA hl rfl (nK (rS (sg 6 rfl (qM hl rfl (qB hl rfl rfl rfl (qM hl rfl (qG hl rfl rfl rfl rfl (qM hl rfl (qG hl rfl rfl rfl rfl (qB hl rfl rfl rfl (qQ hl rfl rfl rfl (rfl) (nK (rF hl rfl (by simp) ?_)))))))))))))))))
        refine rK (kN (sg 7 rfl ?_))
        have e1 : ∀ z, z = p ∨ z = rb ∨ z = zb ∨ z = lb ∨ z ∈ own la' ∨ z ∈ own la → hh1.get z = h.get z := fun z hz => hK.2 z (by have := (hfr z hz).1; omega) (hfr z hz).2
        have hcc1 := hK.1
        dsimp only at hcc1 hO2
        have hb1 := (e1 p (.inl rfl)).trans hb
        refine qM hl rfl (qN hl rfl (qF hl rfl fa164_0 (qL hl rfl (by assumption) ((p162.1 _ _).trans rfl) ?_)))
        refine qM hl rfl (qC hl rfl (CR.mono (hT _ (e1 rb (by simp)) (e1 zb (by simp)) (hss hC2) _ (by omega)) ?_))
        rintro v ⟨hh2, cc2⟩ ⟨rfl, hKT⟩
        refine qA hl rfl (nK (rR (f_1 hl rfl (.inl rfl) rfl ?_)))
        refine ⟨⟨rfl, by decide, fun q => absurd q (by decide), ⟨_, (hKT.2 p (by omega) (by simp [hpR])).trans hb1, rfl⟩, _, Nat.le_add_right at_ n, hR2.move (hKT.2 r (by omega) (by simp [hrW]))⟩, (((hK.base (by omega)).weak hsub).up (by omega)).call hKT ?_ |>.up (by omega)⟩
        intro z hz; simp only [List.mem_cons, List.not_mem_nil, or_false] at hz; right; rcases hz with q | q <;> simp [q]
      | ok y =>
        obtain ⟨z', k, pl⟩ := y
        simp only [hp] at hT ⊢
        refine e_2 Tryz.func209 rfl (H _ (by decide)) Tryz.ntmps209 (by decide) ?_
        intro env hl
        refine sg 1 rfl (qA hl rfl (nK (sg 14 rfl (qM hl rfl (qN hl rfl (qF hl rfl fa164_0 (qL hl rfl (by assumption) ((p162.1 _ _).trans rfl) ?_)))))))
        refine qN hl rfl (qF hl rfl fa169_0 (qL hl rfl (by assumption) ((p165.1 _ _).trans rfl) ?_))
        refine qM hl rfl (qC hl rfl (CR.mono (hH _ (by omega)) ?_))
        rintro v ⟨hh1, cc1⟩ ⟨⟨rfl, hR2, cW', hC2, hO2⟩, hK⟩
        refine qM hl rfl (qE hl rfl rfl (qE hl rfl rfl (qA hl rfl (qA hl rfl (nK (rS (sg 6 rfl (qM hl rfl (qB hl rfl rfl rfl (qM hl rfl (qG hl rfl rfl rfl rfl (qM hl rfl (qG hl rfl rfl rfl rfl (qB hl rfl rfl rfl (qQ hl rfl rfl rfl (rfl) (nK (rF hl rfl (by simp) ?_)))))))))))))))))
        refine rK (kN (sg 7 rfl ?_))
        have e1 : ∀ z, z = p ∨ z = rb ∨ z = zb ∨ z = lb ∨ z ∈ own la' ∨ z ∈ own la → hh1.get z = h.get z := fun z hz => hK.2 z (by have := (hfr z hz).1; omega) (hfr z hz).2
        have hcc1 := hK.1
        dsimp only at hcc1 hO2
        have hb1 := (e1 p (.inl rfl)).trans hb
        refine qM hl rfl (qN hl rfl (qF hl rfl fa164_0 (qL hl rfl (by assumption) ((p162.1 _ _).trans rfl) ?_)))
        refine qM hl rfl (qC hl rfl (CR.mono (hT _ (e1 rb (by simp)) (e1 zb (by simp)) (hss hC2) _ (by omega)) ?_))
        rintro v ⟨hh2, cc2⟩ ⟨⟨rfl, hZ3, hrb3⟩, hKT⟩
        refine qA hl rfl (nK (rR (f_1 hl rfl (.inl rfl) rfl ?_)))
        have hpo := Ze.put_ok hZ.1.1 (hss hC2) hd0 hp
        have hcc2 := hKT.1
        dsimp only at hcc2
        have e3 : ∀ z, z < cc1 → z ≠ rb → z ≠ zb → hh2.get z = hh1.get z := fun z h1 h2 h3 => hKT.2 z (by omega) (by simp [h2, h3])
        have hkin := hC2.kind
        have hC3 := hC2.move (g' := hh2.get) (fun z hz => e3 z (by rcases hO2 z hz with q | q; (have := hc.2 z (by simp [q]); omega); omega) (by rintro rfl; exact kind_ne hkin ((e1 _ (by simp)).trans hrb) (by dsimp only; decide) hz) (by rintro rfl; exact kind_ne hkin ((e1 _ (by simp)).trans hZ.2) (by dsimp only; decide) hz))
        refine ⟨⟨rfl, hR2.move (e3 r (by omega) hrW.2.2.1 hrW.2.2.2.1), _, mk { x with co := c', ze := z', due := k, place := pl } cW' hh2.get ⟨by dsimp only; rw [hpo.1, hok.1]; exact q1, by dsimp only; rw [hpo.1]; exact q2, by dsimp only; rw [q2]; exact hpo.2.2.2.1, by dsimp only; rw [hpo.2.2.1, hok.2.1, q1], by have := hZ.1.2.2.1; have := hZ.1.2.2.2.1; dsimp only; omega⟩ rfl (by dsimp only; rw [hpo.2.1]; exact k1) (by dsimp only; rw [← hpo.2.2.2.2.2]; have := k2; rw [hdw.1, hdw.2] at this; simp only [Nat.lt_irrefl, if_false, Nat.add_zero] at this; omega) hrb3 hC3 hZ3 (fun z hz => (e3 z (by have := (hfr z (by rcases hz with q | q | q | q <;> simp [q])).1; omega) ?_ ?_).trans (e1 z (by rcases hz with q | q | q | q <;> simp [q]))) (fun z hz => (hO2 z hz).imp id (fun q => by have := q.1; omega)), ?_⟩, ((((hK.base (by omega)).weak hsub).up (by omega)).call hKT ?_).up (by omega)⟩
        · skip
          rcases hz with q | q | q | q
          · subst q; exact hpR.1
          · rintro rfl; exact own_ne hS hrb (by dsimp only; decide) q
          · subst q; exact n2.symm
          · rintro rfl; exact n3 q
        · skip
          rcases hz with q | q | q | q
          · subst q; exact hpR.2.1
          · rintro rfl; exact own_ne hS hZ.2 (by dsimp only; decide) q
          · subst q; exact n5.symm
          · rintro rfl; exact n6 q
        · intro z hz; simp only [List.mem_cons, List.mem_append] at hz ⊢
          rcases hz with q | q | q | q | q | q | q
          any_goals (left; simp [q]; done)
          rcases hO2 z q with q6 | q6
          · left; simp [q6]
          · right; dsimp only at *; omega
        · intro z hz; simp only [List.mem_cons, List.not_mem_nil, or_false] at hz; right; rcases hz with q | q <;> simp [q]
end
theorem Bl.fin_err {b : Bl} {e : Nat} (h : b.fin = .error e) : e = 23 := by
  simp only [Bl.fin] at h
  repeat' split at h
  all_goals first | (cases h; done) | (cases h; rfl)
section
variable {ov : OvT} (H : OvH ov)
include H
theorem blTail {h h1 : Heap} {c0 c1 c2 p r dr at_ n : Nat} {all : List Bool} {b b1 : Bl} {W W1 : List Nat} (hR1 : BitR all dr (at_ + n) (h1.get r)) (hP1 : BlR b1 p W1 h1.get) (hW1 : ∀ z ∈ W1, z ∈ W ∨ c0 ≤ z ∧ z < c1) (hK : Keep (r :: W) h c0 ⟨h1, c1⟩) (hpW : p ∈ W) (hpr : r ≠ p) (hrc : r < c0) (hc : ∀ z ∈ W, z < c0) (hcc : c1 ≤ c2) {Q : Value → St → Prop}
    (k : ∀ v st, BlPost h c0 all dr at_ r p W b (b1.fin.map fun b => (b, n)) v st → Q v st) :
    CR Tryz.prog ov 210 [ptr p] ⟨h1, c2⟩ Q := by
  have hb1 := hK.1; dsimp only at hb1
  refine CR.mono (blEnd_cr H hP1 (fun z hz => by rcases hW1 z hz with q | q; (have := hc z q; omega); omega)) ?_
  rintro v ⟨h2, c3⟩ ⟨hv, hK2⟩
  have hcc3 := hK2.1; dsimp only at hcc3
  have hR2 := hR1.move (hK2.2 r (by omega) (by simpa using hpr))
  have hKK := (hK.up (c3 := c2) hcc).call hK2 (fun z hz => .inr (by simp only [List.mem_singleton] at hz; subst hz; simp [hpW]))
  refine k v _ ?_
  cases hf : b1.fin with
  | ok b2 =>
    simp only [hf] at hv ⊢
    obtain ⟨rfl, hB⟩ := hv
    exact ⟨⟨rfl, hR2, W1, hB, fun z hz => (hW1 z hz).imp id (fun q => by dsimp only; omega)⟩, hKK⟩
  | error e =>
    simp only [hf] at hv ⊢
    obtain ⟨rfl, rfl, hB⟩ := hv
    exact ⟨⟨rfl, by decide, fun q => absurd q (by decide), hB, _, Nat.le_add_right at_ n, hR2⟩, hKK⟩
omit H in
theorem BlPost.up {h : Heap} {c0 : Nat} {all : List Bool} {dr at_ r p : Nat} {W : List Nat} {b : Bl} {res : Except Nat (Bl × Nat)} {v : Value} {h1 : Heap} {c1 c2 : Nat} (hp : BlPost h c0 all dr at_ r p W b res v ⟨h1, c1⟩) (hc : c1 ≤ c2) : BlPost h c0 all dr at_ r p W b res v ⟨h1, c2⟩ := by
  obtain ⟨q, k⟩ := hp
  refine ⟨?_, k.up hc⟩
  cases res with
  | ok y => obtain ⟨b', n⟩ := y; obtain ⟨q1, q2, W', q3, q4⟩ := q; exact ⟨q1, q2, W', q3, fun z hz => (q4 z hz).imp id (fun q => by dsimp only at *; omega)⟩
  | error e => exact q
theorem blStep0_cr {h : Heap} {c0 p r dr at_ : Nat} {all : List Bool} {b : Bl} {W : List Nat} (hP : BlR b p W h.get) (hR : BitR all dr at_ (h.get r)) (hc : r < c0 ∧ ∀ z ∈ W, z < c0) (hcd : ∀ x, b.row = some x → x.waits = false → x.co.done = false) :
    CR Tryz.prog ov 184 [ptr p, ptr r] ⟨h, c0⟩ (fun v st => BlPost h c0 all dr at_ r p W b (b.step (all.drop at_)) v st) := by
  have hrW := hP.r_ne hR
  obtain ⟨_, la, cp, rv, rW, hb, hS, hrow, hdis, hWW⟩ := id hP
  have hpW : p ∈ W := by rw [hWW]; simp
  have hrp : r ≠ p := fun e => hrW (e ▸ hpW)
  have hpc := hc.2 p hpW
  simp only [Bl.step]
  cases hrx : b.row with
  | none =>
    rw [hrx] at hrow
    obtain ⟨rfl, rfl⟩ := hrow
    by_cases hh : b.head = true
    · have hhn : (!b.head) = false := by simp [hh]
      have hH := fun c' (q : c0 ≤ c') => blSymbols_cr H (c0 := c') hP hR ⟨by omega, fun z hz => by have := hc.2 z hz; omega⟩ hh hrx
      cases hg : b.go (all.drop at_) with
      | error e =>
        simp only [hg, BlPost] at hH
        refine e_2 Tryz.func184 rfl (H _ (by decide)) Tryz.ntmps184 (by decide) ?_
        intro env hl
        refine sg 1 rfl (qA hl rfl (nK (sg 1 rfl (qA hl rfl (nK (rS (rB (sg 6 rfl (qM hl rfl (qN hl rfl (qF hl rfl fa164_2 (qL hl rfl (by assumption) ((p4.1 _ _).trans rfl) ?_))))))))))))
        refine q_un hl rfl rfl (qA hl rfl (nK (rF hl rfl (by exact hhn) ?_)))
        refine sg 6 rfl (qM hl rfl (qN hl rfl (qF hl rfl fa164_0 (qL hl rfl (by assumption) ((p162.1 _ _).trans rfl) ?_))))
        refine qB hl rfl rfl nz162 (qA hl rfl (nK (rT hl rfl (by first | rfl | (simp only [dz]; omega) | (simp; done) | (simp; omega)) ?_)))
        refine rg 4 rfl (qM hl rfl (qM hl rfl (qC hl rfl (CR.mono (hH _ (by omega)) ?_))))
        rintro v ⟨hh1, cc1⟩ ⟨⟨rfl, he0, hsh, hB, k, hk3, hR2⟩, hK⟩
        refine qA hl rfl (rN (kO (kN (rS (sg 2 rfl (qM hl rfl (qB hl rfl rfl rfl (nK (rT hl rfl (by simp; omega) ?_)))))))))
        refine sg 2 rfl (qM hl rfl (qA hl rfl (nK (rR (kR (f_1 hl rfl (.inl rfl) rfl ?_))))))
        exact ⟨⟨rfl, he0, hsh, hB, k, hk3, hR2⟩, (hK.base (by omega)).up (by omega)⟩
      | ok y =>
        obtain ⟨b1, n⟩ := y
        simp only [hg, BlPost] at hH
        refine e_2 Tryz.func184 rfl (H _ (by decide)) Tryz.ntmps184 (by decide) ?_
        intro env hl
        refine sg 1 rfl (qA hl rfl (nK (sg 1 rfl (qA hl rfl (nK (rS (rB (sg 6 rfl (qM hl rfl (qN hl rfl (qF hl rfl fa164_2 (qL hl rfl (by assumption) ((p4.1 _ _).trans rfl) ?_))))))))))))
        refine q_un hl rfl rfl (qA hl rfl (nK (rF hl rfl (by exact hhn) ?_)))
        refine sg 6 rfl (qM hl rfl (qN hl rfl (qF hl rfl fa164_0 (qL hl rfl (by assumption) ((p162.1 _ _).trans rfl) ?_))))
        refine qB hl rfl rfl nz162 (qA hl rfl (nK (rT hl rfl (by first | rfl | (simp only [dz]; omega) | (simp; done) | (simp; omega)) ?_)))
        refine rg 4 rfl (qM hl rfl (qM hl rfl (qC hl rfl (CR.mono (hH _ (by omega)) ?_))))
        rintro v ⟨hh1, cc1⟩ ⟨⟨rfl, hR2, W1, hP1, hW1⟩, hK⟩
        refine qA hl rfl (rN (kO (kN (rS (sg 2 rfl (qM hl rfl (qB hl rfl rfl rfl (nK (rF hl rfl (by first | rfl | (simp only [dz]; omega) | (simp; done) | (simp; omega)) ?_)))))))))
        refine rK (kN (sg 3 rfl (qM hl rfl (qC hl rfl (CR.mono (blTail H (b := b) hR2 hP1 (fun z hz => (hW1 z hz).imp id (fun q => ⟨by omega, q.2⟩)) (hK.base (c0 := c0) (by omega)) hpW hrp hc.1 hc.2 (by omega) (fun v st q => q)) ?_)))))
        rintro v ⟨hh2, cc2⟩ hq
        refine qA hl rfl (nK (rR (f_1 hl rfl (.inl rfl) rfl ?_)))
        exact hq
    · have hh' : b.head = false := by simpa using hh
      have hhn : (!b.head) = true := by simp [hh']
      have hH := fun c' (q : c0 ≤ c') => blBegin_cr H (c0 := c') hP hR ⟨by omega, fun z hz => by have := hc.2 z hz; omega⟩ hh'
      cases hg : b.go (all.drop at_) with
      | error e =>
        simp only [hg, BlPost] at hH
        refine e_2 Tryz.func184 rfl (H _ (by decide)) Tryz.ntmps184 (by decide) ?_
        intro env hl
        refine sg 1 rfl (qA hl rfl (nK (sg 1 rfl (qA hl rfl (nK (rS (rB (sg 6 rfl (qM hl rfl (qN hl rfl (qF hl rfl fa164_2 (qL hl rfl (by assumption) ((p4.1 _ _).trans rfl) ?_))))))))))))
        refine q_un hl rfl rfl (qA hl rfl (nK (rT hl rfl (by exact hhn) ?_)))
        refine rg 4 rfl (qM hl rfl (qM hl rfl (qC hl rfl (CR.mono (hH _ (by omega)) ?_))))
        rintro v ⟨hh1, cc1⟩ ⟨⟨rfl, he0, hsh, hB, k, hk3, hR2⟩, hK⟩
        refine qA hl rfl (rN (kO (kN (rS (sg 2 rfl (qM hl rfl (qB hl rfl rfl rfl (nK (rT hl rfl (by simp; omega) ?_)))))))))
        refine sg 2 rfl (qM hl rfl (qA hl rfl (nK (rR (kR (f_1 hl rfl (.inl rfl) rfl ?_))))))
        exact ⟨⟨rfl, he0, hsh, hB, k, hk3, hR2⟩, (hK.base (by omega)).up (by omega)⟩
      | ok y =>
        obtain ⟨b1, n⟩ := y
        simp only [hg, BlPost] at hH
        refine e_2 Tryz.func184 rfl (H _ (by decide)) Tryz.ntmps184 (by decide) ?_
        intro env hl
        refine sg 1 rfl (qA hl rfl (nK (sg 1 rfl (qA hl rfl (nK (rS (rB (sg 6 rfl (qM hl rfl (qN hl rfl (qF hl rfl fa164_2 (qL hl rfl (by assumption) ((p4.1 _ _).trans rfl) ?_))))))))))))
        refine q_un hl rfl rfl (qA hl rfl (nK (rT hl rfl (by exact hhn) ?_)))
        refine rg 4 rfl (qM hl rfl (qM hl rfl (qC hl rfl (CR.mono (hH _ (by omega)) ?_))))
        rintro v ⟨hh1, cc1⟩ ⟨⟨rfl, hR2, W1, hP1, hW1⟩, hK⟩
        refine qA hl rfl (rN (kO (kN (rS (sg 2 rfl (qM hl rfl (qB hl rfl rfl rfl (nK (rF hl rfl (by first | rfl | (simp only [dz]; omega) | (simp; done) | (simp; omega)) ?_)))))))))
        refine rK (kN (sg 3 rfl (qM hl rfl (qC hl rfl (CR.mono (blTail H (b := b) hR2 hP1 (fun z hz => (hW1 z hz).imp id (fun q => ⟨by omega, q.2⟩)) (hK.base (c0 := c0) (by omega)) hpW hrp hc.1 hc.2 (by omega) (fun v st q => q)) ?_)))))
        rintro v ⟨hh2, cc2⟩ hq
        refine qA hl rfl (nK (rR (f_1 hl rfl (.inl rfl) rfl ?_)))
        exact hq
  | some x =>
    rw [hrx] at hrow
    obtain ⟨rb, rfl, hRw⟩ := hrow
    have hh : b.head = true := by
      by_cases hh : b.head = true
      · exact hh
      · have := hP.1.2.2.2.2.2.1 (by simpa using hh); rw [hrx] at this; cases this
    have hhn : (!b.head) = false := by simp [hh]
    by_cases hw : x.waits = true
    · have hpR : p ∉ rW := kind_ne hRw.kind hb (by dsimp only; decide)
      obtain ⟨⟨g1, g2, g3, g4, g5, g6, g7, g8⟩, _⟩ := id hP
      obtain ⟨k1, k2⟩ := g8 x hrx
      obtain ⟨⟨q1, q2, q3, q4, q5⟩, cb, zb, lb, la', cW, hrb, hC, hZ, hM, hrWW⟩ := id hRw
      have hat : x.at_ < x.list.length := by simp only [Rw.at_]; split <;> omega
      have hw2 : 0 < x.due ∨ 0 < x.place := by simp [Rw.waits] at hw; exact hw
      have hlst : b.last.length + 1 + x.next.due + (if 0 < x.next.place then 1 else 0) = x.next.ze.told ∧ x.next.ze.most = b.room := by
        by_cases hd : 0 < x.due
        · simp only [Rw.next, if_pos hd]; refine ⟨?_, k1⟩; rw [← k2]; split <;> omega
        · simp only [Rw.next, if_neg hd]; refine ⟨?_, k1⟩; rw [if_pos (by omega)] at k2; simp; omega
      have htm := hZ.1.2.2.2.1
      have hg : b.go (all.drop at_) = .ok ({ b with last := b.last ++ [x.list.getD x.at_ 0], row := some x.next }, 0) := by simp only [Bl.go, hh, Bool.not_true, Bool.false_eq_true, if_false, hrx, hw, if_true]
      rw [hg]
      have hWm : ∀ z, z = p ∨ z ∈ own la ∨ z ∈ rW → z ∈ W := by intro z hz; rw [hWW]; simp only [List.mem_cons, List.mem_append]; exact hz
      have hbo := own_ne hS hb (by dsimp only; decide)
      refine e_2 Tryz.func184 rfl (H _ (by decide)) Tryz.ntmps184 (by decide) ?_
      intro env hl
      refine sg 1 rfl (qA hl rfl (nK (sg 1 rfl (qA hl rfl (nK (rS (rB (sg 6 rfl (qM hl rfl (qN hl rfl (qF hl rfl fa164_2 (qL hl rfl (by assumption) ((p4.1 _ _).trans rfl) ?_))))))))))))
      refine q_un hl rfl rfl (qA hl rfl (nK (rF hl rfl (by exact hhn) ?_)))
      refine sg 6 rfl (qM hl rfl (qN hl rfl (qF hl rfl fa164_0 (qL hl rfl (by assumption) ((p162.1 _ _).trans rfl) ?_))))
      refine qB hl rfl rfl (nq162 _) (qA hl rfl (nK (rF hl rfl (by first | rfl | (simp only [dz]; omega) | (simp; done) | (simp; omega)) ?_)))
      refine sg 6 rfl (qM hl rfl (qN hl rfl (qF hl rfl fa164_0 (qL hl rfl (by assumption) ((p162.1 _ _).trans rfl) ?_))))
      refine qC hl rfl (CR.mono (rwWaits_cr H hRw) ?_)
      rintro v ⟨hh1, cc1⟩ ⟨rfl, rfl, hk⟩
      try dsimp only at hk
      refine qA hl rfl (nK (rT hl rfl (by exact hw) ?_))
      refine rD [(4, 10)] (by decide +kernel) (by decide +kernel) (n := 15) rfl ?_
      refine qM hl rfl (qM hl rfl (qN hl rfl (qF hl rfl fa164_5 (qL hl rfl (by assumption) ((p102.1 _ _).trans rfl) ?_))))
      refine qM hl rfl (qN hl rfl (qF hl rfl fa164_0 (qL hl rfl (by assumption) ((p162.1 _ _).trans rfl) ?_)))
      refine qC hl rfl (CR.mono (rwNext_cr H hRw (fun z hz => by have := hc.2 z (hWm z (by simp [hz])); omega)) ?_)
      rintro v ⟨hh2, cc2⟩ ⟨rfl, hRn, hKn⟩
      have hcc2 := hKn.1
      dsimp only at hcc2 hRn
      have hb2 := (hKn.2 p (by omega) hpR).trans hb
      have hS2 := hS.move (g' := hh2.get) (fun z hz => hKn.2 z (by have := hc.2 z (hWm z (by simp [hz])); omega) (hdis z hz))
      refine q1_ hl rfl a102 rfl (qX hl rfl rfl a102 a102 (hS2.move (fun z hz => by have := hc.2 z (hWm z (by simp [hz])); rw [T.get_set, if_neg (by omega)])) ((T.get_set _ _ _ _).trans (if_pos rfl)) rfl (by omega) (by omega) ?_)
      intro a2 cp3 h4 hS4 hO4 hF4
      have hb4 := (hF4 p (by omega) hbo).trans ((T.get_set _ _ _ _).trans ((if_neg (by omega)).trans hb2))
      refine qN hl rfl (qF hl rfl fa164_5 (qW hl rfl rfl (by assumption) p102 rfl rfl (by first | decide | (simp; done) | (simp; omega)) ?_))
      refine ro_nilp ?_ ?_
      · exact all1 (pair_load hl rfl rfl rfl rfl ((heapAt_old rfl (by omega)).trans hb2) ((p102.1 _ _).trans rfl) rfl (same_slice _ _ _))
      refine kO (kN (rS (sg 2 rfl (qM hl rfl (qB hl rfl rfl rfl (nK (rF hl rfl (by first | rfl | (simp only [dz]; omega) | (simp; done) | (simp; omega)) ?_)))))))
      refine rK (kN (sg 3 rfl ?_))
      generalize hfh : T.set h4 p _ = hf
      have hf2 : ∀ z, z < c0 → z ≠ p → z ∉ own la → hf.get z = hh2.get z := by
        intro z h1 h2 h3
        rw [← hfh, T.get_set, if_neg h2, hF4 z (by omega) h3, T.get_set, if_neg (by omega)]
      have hRf : BitR all dr (at_ + 0) (hf.get r) := hR.move ((hf2 r hc.1 hrp (fun m => hrW (hWm r (by simp [m])))).trans (hKn.2 r (by omega) (fun m => hrW (hWm r (by simp [m])))))
      have hO5 : ∀ z ∈ own a2, c0 ≤ z ∧ z < cc2 := fun z hz => by have := hO4 z hz; omega
      have hPf : BlR { b with last := b.last ++ [x.list.getD x.at_ 0], row := some x.next } p (p :: (own a2 ++ rW)) hf.get := by
        refine ⟨⟨g1, g2, g3, g4, ?_, fun q => absurd (hh.symm.trans q) (by decide), fun q => absurd q (by simp), fun y hy => ?_⟩, a2, cp3, ptr rb, rW, ?_, ?_, ⟨rb, rfl, hRn.move (fun z hz => hf2 z (hc.2 z (hWm z (by simp [hz]))) (fun e => hpR (e ▸ hz)) (fun m => hdis z m hz))⟩, fun z hz hm => ?_, rfl⟩
        · intro y hy; rcases List.mem_append.mp hy with q | q
          · exact g5 y q
          · simp only [List.mem_singleton] at q; subst q; rw [List.getD_eq_getElem?_getD, List.getElem?_eq_getElem hat]; exact hM.1 _ (List.getElem_mem hat)
        · cases hy; refine ⟨hlst.2, ?_⟩; rw [← hlst.1]; simp
        · rw [← hfh, T.get_set, if_pos rfl]; simp
        · rw [List.map_append, List.length_append]; exact hS4.move (fun z hz => by rw [← hfh, T.get_set, if_neg (by have := hO5 z hz; omega)])
        · have := hO5 z hz; have := hc.2 z (hWm z (by simp [hm])); omega
      have hKf : Keep (r :: W) h c0 ⟨hf, cc2⟩ := by
        rw [← hfh]
        have k1 := (hKn.base (c0 := c0) (by omega)).weak (W' := r :: W) (fun z hz => by simp [hWm z (by simp [hz])])
        exact (k1.app2 hF4 (fun z hz => .inr (by simp [hWm z (by simp [hz])])) (by omega) (by omega) (Nat.le_refl _)).set (nm := p) (.inr (by simp [hpW]))
      refine qM hl rfl (qC hl rfl (CR.mono (blTail H (b := b) hRf hPf (fun z hz => by simp only [List.mem_cons, List.mem_append] at hz; rcases hz with q | q | q; (left; rw [q]; exact hpW); (right; exact hO5 z q); (left; exact hWm z (by simp [q]))) hKf hpW hrp hc.1 hc.2 (by omega) (fun v st q => q)) ?_))
      rintro v ⟨hh3, cc3⟩ hq
      refine qA hl rfl (nK (rR (f_1 hl rfl (.inl rfl) rfl ?_)))
      exact hq
    · have hw' : x.waits = false := by simpa using hw
      have hH := fun c' (q : c0 ≤ c') => blSymbol_cr H (c0 := c') hP hR ⟨by omega, fun z hz => by have := hc.2 z hz; omega⟩ hh hrx hw' (hcd x hrx hw')
      cases hg : b.go (all.drop at_) with
      | error e =>
        simp only [hg, BlPost] at hH
        refine e_2 Tryz.func184 rfl (H _ (by decide)) Tryz.ntmps184 (by decide) ?_
        intro env hl
        refine sg 1 rfl (qA hl rfl (nK (sg 1 rfl (qA hl rfl (nK (rS (rB (sg 6 rfl (qM hl rfl (qN hl rfl (qF hl rfl fa164_2 (qL hl rfl (by assumption) ((p4.1 _ _).trans rfl) ?_))))))))))))
        refine q_un hl rfl rfl (qA hl rfl (nK (rF hl rfl (by exact hhn) ?_)))
        refine sg 6 rfl (qM hl rfl (qN hl rfl (qF hl rfl fa164_0 (qL hl rfl (by assumption) ((p162.1 _ _).trans rfl) ?_))))
        refine qB hl rfl rfl (nq162 _) (qA hl rfl (nK (rF hl rfl (by first | rfl | (simp only [dz]; omega) | (simp; done) | (simp; omega)) ?_)))
        refine sg 6 rfl (qM hl rfl (qN hl rfl (qF hl rfl fa164_0 (qL hl rfl (by assumption) ((p162.1 _ _).trans rfl) ?_))))
        refine qC hl rfl (CR.mono (rwWaits_cr H hRw) ?_)
        rintro v ⟨hh1, cc1⟩ ⟨rfl, rfl, hk⟩
        try dsimp only at hk
        refine qA hl rfl (nK (rF hl rfl (by exact hw') ?_))
        refine rg 4 rfl (qM hl rfl (qM hl rfl (qC hl rfl (CR.mono (hH _ (by omega)) ?_))))
        rintro v ⟨hh2, cc2⟩ ⟨⟨rfl, he0, hsh, hB, k, hk3, hR2⟩, hK⟩
        refine qA hl rfl (rN (kO (kN (rS (sg 2 rfl (qM hl rfl (qB hl rfl rfl rfl (nK (rT hl rfl (by simp; omega) ?_)))))))))
        refine sg 2 rfl (qM hl rfl (qA hl rfl (nK (rR (kR (f_1 hl rfl (.inl rfl) rfl ?_))))))
        exact ⟨⟨rfl, he0, hsh, hB, k, hk3, hR2⟩, (hK.base (by omega)).up (by omega)⟩
      | ok y =>
        obtain ⟨b1, n⟩ := y
        simp only [hg, BlPost] at hH
        refine e_2 Tryz.func184 rfl (H _ (by decide)) Tryz.ntmps184 (by decide) ?_
        intro env hl
        refine sg 1 rfl (qA hl rfl (nK (sg 1 rfl (qA hl rfl (nK (rS (rB (sg 6 rfl (qM hl rfl (qN hl rfl (qF hl rfl fa164_2 (qL hl rfl (by assumption) ((p4.1 _ _).trans rfl) ?_))))))))))))
        refine q_un hl rfl rfl (qA hl rfl (nK (rF hl rfl (by exact hhn) ?_)))
        refine sg 6 rfl (qM hl rfl (qN hl rfl (qF hl rfl fa164_0 (qL hl rfl (by assumption) ((p162.1 _ _).trans rfl) ?_))))
        refine qB hl rfl rfl (nq162 _) (qA hl rfl (nK (rF hl rfl (by first | rfl | (simp only [dz]; omega) | (simp; done) | (simp; omega)) ?_)))
        refine sg 6 rfl (qM hl rfl (qN hl rfl (qF hl rfl fa164_0 (qL hl rfl (by assumption) ((p162.1 _ _).trans rfl) ?_))))
        refine qC hl rfl (CR.mono (rwWaits_cr H hRw) ?_)
        rintro v ⟨hh1, cc1⟩ ⟨rfl, rfl, hk⟩
        try dsimp only at hk
        refine qA hl rfl (nK (rF hl rfl (by exact hw') ?_))
        refine rg 4 rfl (qM hl rfl (qM hl rfl (qC hl rfl (CR.mono (hH _ (by omega)) ?_))))
        rintro v ⟨hh2, cc2⟩ ⟨⟨rfl, hR2, W1, hP1, hW1⟩, hK⟩
        refine qA hl rfl (rN (kO (kN (rS (sg 2 rfl (qM hl rfl (qB hl rfl rfl rfl (nK (rF hl rfl (by first | rfl | (simp only [dz]; omega) | (simp; done) | (simp; omega)) ?_)))))))))
        refine rK (kN (sg 3 rfl (qM hl rfl (qC hl rfl (CR.mono (blTail H (b := b) hR2 hP1 (fun z hz => (hW1 z hz).imp id (fun q => ⟨by omega, q.2⟩)) (hK.base (c0 := c0) (by omega)) hpW hrp hc.1 hc.2 (by omega) (fun v st q => q)) ?_)))))
        rintro v ⟨hh2, cc2⟩ hq
        refine qA hl rfl (nK (rR (f_1 hl rfl (.inl rfl) rfl ?_)))
        exact hq
end
theorem T_same {h : Heap} {p : Nat} {B : Blk} (hb : h.get p = some B) (z : Nat) : (h.set p B).get z = h.get z := by
  rw [T.get_set]; split
  · rename_i e; rw [e, hb]
  · rfl
section
variable {ov : OvT} (H : OvH ov)
include H
theorem blStep_cr {h : Heap} {c0 p r dr at_ : Nat} {all : List Bool} {b : Bl} {W : List Nat} (hP : BlR b p W h.get) (hR : BitR all dr at_ (h.get r)) (hc : r < c0 ∧ ∀ z ∈ W, z < c0) (hcd : ∀ x, b.row = some x → x.waits = false → x.co.done = false) (hd : b.done = false) :
    CR Tryz.prog ov 153 [ptr p, ptr r] ⟨h, c0⟩ (fun v st => BlPost h c0 all dr at_ r p W b (b.step (all.drop at_)) v st) := by
  have hrW := hP.r_ne hR
  obtain ⟨_, la, cp, rv, rW, hb, hS, hrow, hdis, hWW⟩ := id hP
  have hpW : p ∈ W := by rw [hWW]; simp
  have hrp : r ≠ p := fun e => hrW (e ▸ hpW)
  have hpc := hc.2 p hpW
  rw [hd] at hb
  have hH := fun c' (q : c0 ≤ c') => blStep0_cr H (c0 := c') hP hR ⟨by omega, fun z hz => by have := hc.2 z hz; omega⟩ hcd
  cases hg : b.step (all.drop at_) with
  | error e =>
    simp only [hg, BlPost] at hH
    refine e_2 Tryz.func153 rfl (H _ (by decide)) Tryz.ntmps153 (by decide) ?_
    intro env hl
    refine sg 1 rfl (qA hl rfl (nK (rS (rB (sg 13 rfl (qM hl rfl (qB hl rfl rfl (nq119 _) (qM hl rfl (qG hl rfl rfl rfl rfl (qM hl rfl (qG hl rfl rfl rfl rfl (qB hl rfl rfl (nq36 _) (qQ hl rfl rfl rfl (rfl) (qM hl rfl (qG hl rfl rfl rfl rfl (qM hl rfl (qG hl rfl rfl rfl rfl (qN hl rfl (qG hl rfl rfl rfl rfl (qF hl rfl fa164_6 ?_))))))))))))))))))))
    refine qG hl rfl rfl rfl rfl (qL hl rfl (by assumption) ((p4.1 _ _).trans rfl) ?_)
    refine qQ hl rfl rfl rfl (rfl) (qA hl rfl (nK (rF hl rfl (by first | rfl | (simp only [dz]; omega) | (simp; done) | (simp; omega)) ?_)))
    refine sg 6 rfl (qM hl rfl (qN hl rfl (qF hl rfl fa164_7 (qL hl rfl (by assumption) ((p23.1 _ _).trans rfl) ?_))))
    refine qB hl rfl rfl rfl (qA hl rfl (nK (rF hl rfl (by first | rfl | (simp only [dz]; omega) | (simp; done) | (simp; omega)) ?_)))
    refine rK (kO (kN (sg 4 rfl (qM hl rfl (qM hl rfl (qC hl rfl (CR.mono (hH _ (by omega)) ?_)))))))
    rintro v ⟨hh1, cc1⟩ ⟨⟨rfl, he0, hsh, ⟨B, hB, hBl⟩, k, hk3, hR2⟩, hK⟩
    refine qA hl rfl (nK (rS (sg 2 rfl (qM hl rfl (qB hl rfl rfl rfl (nK ?_))))))
    refine rC hl rfl (fun he => ?_) (fun he => ?_)
    · try simp only [dz, dy] at he
      refine rg 5 rfl (qM hl rfl (qM hl rfl (qN hl rfl (qF hl rfl fa164_7 (qW hl rfl rfl (by assumption) p23 rfl rfl (by omega) ?_)))))
      refine nK (sg 2 rfl (qM hl rfl (qA hl rfl (nK (rR (f_1 hl rfl (.inl rfl) rfl ?_))))))
      refine ⟨⟨rfl, he0, fun q => absurd q (by omega), ⟨_, (T.get_set _ _ _ _).trans (if_pos rfl), by simp [hBl]⟩, k, hk3, hR2.move (by dsimp only; rw [T.get_set, if_neg hrp])⟩, ((hK.base (c0 := c0) (by omega)).set (nm := p) (.inr (by simp [hpW]))).up (by omega)⟩
    · try simp only [dz, dy] at he
      refine rK (kN (sg 2 rfl (qM hl rfl (qA hl rfl (nK (rR (f_1 hl rfl (.inl rfl) rfl ?_)))))))
      exact ⟨⟨rfl, he0, hsh, ⟨B, hB, hBl⟩, k, hk3, hR2⟩, (hK.base (by omega)).up (by omega)⟩
  | ok y =>
    obtain ⟨b', n⟩ := y
    simp only [hg, BlPost] at hH
    refine e_2 Tryz.func153 rfl (H _ (by decide)) Tryz.ntmps153 (by decide) ?_
    intro env hl
    refine sg 1 rfl (qA hl rfl (nK (rS (rB (sg 13 rfl (qM hl rfl (qB hl rfl rfl (nq119 _) (qM hl rfl (qG hl rfl rfl rfl rfl (qM hl rfl (qG hl rfl rfl rfl rfl (qB hl rfl rfl (nq36 _) (qQ hl rfl rfl rfl (rfl) (qM hl rfl (qG hl rfl rfl rfl rfl (qM hl rfl (qG hl rfl rfl rfl rfl (qN hl rfl (qG hl rfl rfl rfl rfl (qF hl rfl fa164_6 ?_))))))))))))))))))))
    refine qG hl rfl rfl rfl rfl (qL hl rfl (by assumption) ((p4.1 _ _).trans rfl) ?_)
    refine qQ hl rfl rfl rfl (rfl) (qA hl rfl (nK (rF hl rfl (by first | rfl | (simp only [dz]; omega) | (simp; done) | (simp; omega)) ?_)))
    refine sg 6 rfl (qM hl rfl (qN hl rfl (qF hl rfl fa164_7 (qL hl rfl (by assumption) ((p23.1 _ _).trans rfl) ?_))))
    refine qB hl rfl rfl rfl (qA hl rfl (nK (rF hl rfl (by first | rfl | (simp only [dz]; omega) | (simp; done) | (simp; omega)) ?_)))
    refine rK (kO (kN (sg 4 rfl (qM hl rfl (qM hl rfl (qC hl rfl (CR.mono (hH _ (by omega)) ?_)))))))
    rintro v ⟨hh1, cc1⟩ ⟨⟨rfl, hR2, W', hP2, hW2⟩, hK⟩
    obtain ⟨_, la2, cp2, rv2, rW2, hb2, _⟩ := id hP2
    refine qA hl rfl (nK (rS (sg 2 rfl (qM hl rfl (qB hl rfl rfl rfl (nK (rT hl rfl (by first | rfl | (simp only [dz]; omega) | (simp; done) | (simp; omega)) ?_)))))))
    refine rg 5 rfl (qM hl rfl (qM hl rfl (qN hl rfl (qF hl rfl fa164_7 (qW hl rfl rfl (by assumption) p23 rfl rfl (by first | decide | (simp; done) | (simp; omega)) ?_)))))
    refine nK (sg 2 rfl (qM hl rfl (qA hl rfl (nK (rR (f_1 hl rfl (.inl rfl) rfl ?_))))))
    have hsm := T_same hb2
    refine ⟨⟨rfl, hR2.move (by dsimp only; exact hsm r), W', hP2.move (fun z hz => by dsimp only; exact hsm z), fun z hz => (hW2 z hz).imp id (fun q => by dsimp only at *; omega)⟩, ((hK.base (c0 := c0) (by omega)).set (nm := p) (.inr (by simp [hpW]))).up (by omega)⟩
theorem blGot_cr {h : Heap} {c0 p : Nat} {b : Bl} {W : List Nat} (hP : BlR b p W h.get) (hc : ∀ z ∈ W, z < c0) (hd : b.done = true) :
    CR Tryz.prog ov 155 [ptr p] ⟨h, c0⟩ (fun v st => v = .agg #[.string (txt b.last), nv b.from_, .int .u32 b.sum] ∧ Keep [] h c0 st) := by
  have hP1 := hP.move (g' := (h.set c0 ⟨[.string ⟨#[]⟩, nv 0, .int .u32 0], 40, 0⟩).get) (fun z hz => by have := hc z hz; rw [T.get_set, if_neg (by omega)])
  obtain ⟨⟨g1, g2, g3, g4, g5, _⟩, la, cp, rv, rW, hb, hS, hrow, hdis, hWW⟩ := id hP1
  refine e_1 Tryz.func155 rfl (H _ (by decide)) Tryz.ntmps155 (by decide) ?_
  intro env hl
  refine sg 1 rfl (qZ i40 z40 rfl (nK (rS (sg 3 rfl (qM hl rfl (qC hl rfl (CR.mono (blDone_cr H hP1) ?_)))))))
  rintro v ⟨hh1, cc1⟩ ⟨rfl, rfl, hk⟩
  try dsimp only at hk
  refine q_un hl rfl rfl (nK (rF hl rfl (by simp [hd]) ?_))
  refine rK (kN (rS (rD [] (by decide +kernel) (by decide +kernel) (n := 15) rfl ?_)))
  refine qM hl rfl (qN hl rfl (qF hl rfl fa164_5 (qL hl rfl (by first | assumption | (simp only [gs]; rfl) | (simp [gs]; try rfl)) ((p102.1 _ _).trans rfl) ?_)))
  refine qY hl rfl Tryz.underlying102 Tryz.underlying9 Tryz.underlying5 (bs := b.last.map UInt8.ofNat) (by rw [txt_cells g5]; exact hS) ?_
  refine qM hl rfl (qN hl rfl (qF hl rfl fa164_4 (qL hl rfl (by first | assumption | (simp only [gs]; rfl) | (simp [gs]; try rfl)) ((p3.1 _ _).trans rfl) ?_)))
  refine qM hl rfl (qN hl rfl (qF hl rfl fa164_3 (qL hl rfl (by first | assumption | (simp only [gs]; rfl) | (simp [gs]; try rfl)) ((p38.1 _ _).trans rfl) ?_)))
  refine qU hl rfl i40 z40 rfl (by simp [Program.built, Instr.fill, Tryz.underlying40, Value.cells]; rfl) ?_
  refine qV hl rfl rfl (by first | assumption | (simp only [gs]; rfl) | (simp [gs]; try rfl)) p40 rfl rfl (by simp [Value.cells]) ?_
  refine ro_nild (kN (rR (f_c hl rfl (.inl rfl) rfl  (T.get_set _ _ _ _ |>.trans (if_pos rfl)) ((p40.1 _ _).trans rfl) ?_)))
  refine ⟨rfl, (((Keep.refl (Nat.le_refl c0)).set (.inl (by omega))).set (.inl (by omega))).up (by omega)⟩
end
def cntB (s : List Nat) (j b : Nat) : Nat := (idx ((s.map (· == b)).take j) 0).length
theorem cntB_succ {s : List Nat} {j x : Nat} (b : Nat) (h : s[j]? = some x) : cntB s (j + 1) b = if x = b then cntB s j b + 1 else cntB s j b := by
  simp only [cntB, those_take h]; split <;> simp
theorem cntB_all {s : List Nat} {j b : Nat} (h : s.length ≤ j) : cntB s j b = (those s b).length := by
  simp only [cntB, those]; rw [List.take_of_length_le (by simpa using h)]
theorem cntB_le (s : List Nat) (j b : Nat) : cntB s j b ≤ (those s b).length := by
  simp only [cntB, those]
  have := idx_append ((s.map (· == b)).take j) ((s.map (· == b)).drop j) 0
  rw [List.take_append_drop] at this; rw [this, List.length_append]; omega
theorem those_get_cnt {s : List Nat} {j x : Nat} (h : s[j]? = some x) : (those s x)[cntB s j x]? = some j := by
  have e : s.map (· == x) = (s.map (· == x)).take (j + 1) ++ (s.map (· == x)).drop (j + 1) := (List.take_append_drop _ _).symm
  simp only [those, cntB]
  rw [e, idx_append, ← e, those_take h, if_pos rfl, List.append_assoc, List.getElem?_append_right (by simp), Nat.sub_self]; simp
theorem fromC_all {s : List Nat} (h : ∀ x ∈ s, x < 256) : fromC s 256 = s.length := by
  have key : ∀ n, fromC s n = (s.filter (· < n)).length := by
    intro n
    induction n with
    | zero => have e0 : s.filter (fun x => decide (x < 0)) = [] := by rw [List.filter_eq_nil_iff]; simp
              rw [e0]; rfl
    | succ n ih =>
      have e : ∀ (a : List Nat) (k : Nat), (idx (a.map (· == n)) k).length + (a.filter (· < n)).length = (a.filter (· < n + 1)).length := by
        intro a
        induction a with
        | nil => intro k; rfl
        | cons x a ih2 =>
          intro k
          simp only [List.map_cons, List.filter_cons]
          have := ih2 (k + 1)
          by_cases q : x = n
          · subst q; simp [idx]; omega
          · have q1 : (x == n) = false := by simpa using q
            rw [q1]; simp only [idx]
            by_cases q2 : x < n
            · rw [if_pos (by simpa using q2), if_pos (by simp; omega)]; simp; omega
            · rw [if_neg (by simpa using q2), if_neg (by simp; omega)]; exact this
      have := e s 0
      simp only [fromC, those]; omega
  rw [key, List.filter_eq_self.mpr (fun x hx => by simpa using h x hx)]
theorem ordU_get {l : List Nat} {n k m : Nat} (hn : n < m) (hk : k < (those l n).length) : (ordU l m)[fromC l n + k]? = (those l n)[k]? := by
  induction m with
  | zero => omega
  | succ m ih =>
    rw [ordU_succ]
    by_cases q : n = m
    · subst q; rw [List.getElem?_append_right (by rw [ordU_len]; omega), ordU_len, Nat.add_sub_cancel_left]
    · have := ih (by omega)
      have hl : fromC l n + k < (ordU l m).length := by
        rcases Nat.lt_or_ge (fromC l n + k) (ordU l m).length with q2 | q2
        · exact q2
        · rw [List.getElem?_eq_none q2, List.getElem?_eq_getElem hk] at this; cases this
      rw [List.getElem?_append_left hl, this]
theorem fromC_split (l : List Nat) {m p : Nat} (h : p < fromC l m) : ∃ n k, n < m ∧ k < (those l n).length ∧ p = fromC l n + k := by
  induction m with
  | zero => simp [fromC] at h
  | succ m ih =>
    rcases Nat.lt_or_ge p (fromC l m) with q | q
    · obtain ⟨n, k, h1, h2, h3⟩ := ih q; exact ⟨n, k, by omega, h2, h3⟩
    · simp only [fromC] at h; exact ⟨m, p - fromC l m, by omega, by omega, by omega⟩
theorem ordU_lt {l : List Nat} {m x : Nat} (h : x ∈ ordU l m) : x < l.length := by
  simp only [ordU, List.mem_flatMap] at h; obtain ⟨n, _, h2⟩ := h; exact those_lt h2
def atI (L : List Nat) (o : Nat) : Nat → Nat
  | 0 => o
  | j + 1 => L.getD (atI L o j) 0
def outI (L s : List Nat) (o j : Nat) : List Nat := (List.range j).map fun i => s.getD (atI L o (i + 1)) 0
def unbw (s : List Nat) (o : Nat) : List Nat := outI (ordU s 256) s o s.length
structure Inv (s : List Nat) (o k : Nat) (N L : List Nat) (a : Nat) (out : List Nat) : Prop where
  nl : N.length = 256
  ll : L.length = s.length
  n0 : k < s.length → ∀ b, b < 256 → N.getD b 0 = cntB s k b
  n1 : s.length ≤ k → k < 2 * s.length → ∀ b, b < 256 → N.getD b 0 = fromC s b + cntB s (k - s.length) b
  l1 : s.length ≤ k → k ≤ 2 * s.length → ∀ b i, b < 256 → i < cntB s (k - s.length) b → L.getD (fromC s b + i) 0 = (those s b).getD i 0
  l2 : 2 * s.length ≤ k → L = ordU s 256
  at1 : k ≤ 2 * s.length → a = o ∧ out = []
  at2 : 2 * s.length ≤ k → a = atI L o (k - 2 * s.length) ∧ out = outI L s o (k - 2 * s.length)
theorem Inv.full {s L : List Nat} (h256 : ∀ x ∈ s, x < 256) (hl : L.length = s.length) (h : ∀ b i, b < 256 → i < (those s b).length → L.getD (fromC s b + i) 0 = (those s b).getD i 0) : L = ordU s 256 := by
  have hle : (ordU s 256).length = s.length := by rw [ordU_len, fromC_all h256]
  apply List.ext_getElem?; intro p
  rcases Nat.lt_or_ge p s.length with q | q
  · obtain ⟨n, k, h1, h2, rfl⟩ := fromC_split s (m := 256) (p := p) (by rw [fromC_all h256]; exact q)
    have h3 := h n k h1 h2
    rw [ordU_get h1 h2]
    rw [List.getD_eq_getElem?_getD, List.getD_eq_getElem?_getD, List.getElem?_eq_getElem (by omega), List.getElem?_eq_getElem h2] at h3
    rw [List.getElem?_eq_getElem (by omega), List.getElem?_eq_getElem h2]; simpa using h3
  · rw [List.getElem?_eq_none (by omega), List.getElem?_eq_none (by omega)]
theorem atI_lt {s : List Nat} {o : Nat} (h256 : ∀ x ∈ s, x < 256) (ho : o < s.length) : ∀ j, atI (ordU s 256) o j < s.length
  | 0 => ho
  | j + 1 => by
    have ih := atI_lt h256 ho j
    have hle : (ordU s 256).length = s.length := by rw [ordU_len, fromC_all h256]
    simp only [atI]; rw [List.getD_eq_getElem?_getD, List.getElem?_eq_getElem (by omega)]
    exact ordU_lt (List.getElem_mem (by omega))
theorem outI_succ (L s : List Nat) (o j : Nat) : outI L s o (j + 1) = outI L s o j ++ [s.getD (atI L o (j + 1)) 0] := by simp [outI, List.range_succ]
theorem Inv.step0 {s N L out : List Nat} {o k a x : Nat} (h256 : ∀ x ∈ s, x < 256) (h : Inv s o k N L a out) (hk : k + 1 < s.length) (hx : s[k]? = some x) : Inv s o (k + 1) (N.set x (N.getD x 0 + 1)) L a out := by
  have hx2 := h256 x (List.mem_of_getElem? hx)
  refine ⟨by simp [h.nl], h.ll, fun _ b hb => ?_, fun q => by omega, fun q => by omega, fun q => by omega, fun _ => h.at1 (by omega), fun q => by omega⟩
  rw [getD_set (by rw [h.nl]; omega), cntB_succ b hx, h.n0 (by omega) b hb, h.n0 (by omega) x hx2]
  split
  · rename_i e; subst e; rfl
  · rfl
theorem cnt_sum {s M : List Nat} (hM : M.length = 256) (hc : ∀ b, b < 256 → M.getD b 0 = (those s b).length) : ∀ b, b ≤ 256 → (M.take b).sum = fromC s b := by
  intro b
  induction b with
  | zero => intro _; rfl
  | succ b ih =>
    intro hb
    have h1 := hc b (by omega)
    have hlt : b < M.length := by omega
    rw [List.take_add_one, List.getElem?_eq_getElem hlt, Option.toList_some, List.sum_append, ih (by omega)]
    rw [List.getD_eq_getElem?_getD, List.getElem?_eq_getElem hlt] at h1
    simp only [fromC, ← h1]; simp
theorem Inv.last {s N L out : List Nat} {o k a x : Nat} (h256 : ∀ x ∈ s, x < 256) (h : Inv s o k N L a out) (hk : k + 1 = s.length) (hx : s[k]? = some x) : ∀ b, b < 256 → (N.set x (N.getD x 0 + 1)).getD b 0 = (those s b).length := by
  have hx2 := h256 x (List.mem_of_getElem? hx)
  intro b hb
  rw [getD_set (by rw [h.nl]; omega), ← cntB_all (j := k + 1) (by omega), cntB_succ b hx, h.n0 (by omega) b hb, h.n0 (by omega) x hx2]
  split
  · rename_i e; subst e; rfl
  · rfl
theorem Inv.step0' {s N N' L out : List Nat} {o k a x : Nat} (h256 : ∀ x ∈ s, x < 256) (h : Inv s o k N L a out) (hk : k + 1 = s.length) (hx : s[k]? = some x) (hN : N'.length = 256) (hN' : ∀ b, b < 256 → N'.getD b 0 = ((N.set x (N.getD x 0 + 1)).take b).sum) : Inv s o (k + 1) N' L a out := by
  have hx2 := h256 x (List.mem_of_getElem? hx)
  have hc : ∀ b, b < 256 → (N.set x (N.getD x 0 + 1)).getD b 0 = (those s b).length := by
    intro b hb
    rw [getD_set (by rw [h.nl]; omega), ← cntB_all (j := k + 1) (by omega), cntB_succ b hx, h.n0 (by omega) b hb, h.n0 (by omega) x hx2]
    split
    · rename_i e; subst e; rfl
    · rfl
  have hs : ∀ b, b ≤ 256 → ((N.set x (N.getD x 0 + 1)).take b).sum = fromC s b := by
    intro b
    induction b with
    | zero => intro _; rfl
    | succ b ih =>
      intro hb
      have h1 := hc b (by omega)
      have hlt : b < (N.set x (N.getD x 0 + 1)).length := by rw [List.length_set, h.nl]; omega
      rw [List.take_add_one, List.getElem?_eq_getElem hlt, Option.toList_some, List.sum_append, ih (by omega)]
      rw [List.getD_eq_getElem?_getD, List.getElem?_eq_getElem hlt] at h1
      simp only [fromC, ← h1]; simp
  have h0 : s.length ≠ 0 := by omega
  refine ⟨hN, h.ll, fun q => by omega, fun q q2 b hb => ?_, fun q q2 b i hb hi => ?_, fun q => by omega, fun _ => h.at1 (by omega), fun q => by omega⟩
  · rw [hN' b hb, hs b (by omega), show k + 1 - s.length = 0 by omega]; simp [cntB, idx]
  · rw [show k + 1 - s.length = 0 by omega] at hi; simp [cntB, idx] at hi
theorem Inv.pos1 {s N L out : List Nat} {o k a x : Nat} (h256 : ∀ x ∈ s, x < 256) (h : Inv s o k N L a out) (hk : s.length ≤ k ∧ k < 2 * s.length) (hx : s[k - s.length]? = some x) : N.getD x 0 < s.length := by
  have hx2 := h256 x (List.mem_of_getElem? hx)
  have hNx := h.n1 hk.1 hk.2 x hx2
  have hth := those_get_cnt hx
  have hlt : cntB s (k - s.length) x < (those s x).length := by
    rcases Nat.lt_or_ge (cntB s (k - s.length) x) (those s x).length with q | q
    · exact q
    · rw [List.getElem?_eq_none q] at hth; cases hth
  have h1 := fromC_mono s (show x + 1 ≤ 256 by omega)
  rw [fromC_all h256] at h1; simp only [fromC] at h1; omega
theorem Inv.step1 {s N L out : List Nat} {o k a x : Nat} (h256 : ∀ x ∈ s, x < 256) (h : Inv s o k N L a out) (hk : s.length ≤ k ∧ k < 2 * s.length) (hx : s[k - s.length]? = some x) : Inv s o (k + 1) (N.set x (N.getD x 0 + 1)) (L.set (N.getD x 0) (k - s.length)) a out := by
  have hx2 := h256 x (List.mem_of_getElem? hx)
  have hNx := h.n1 hk.1 hk.2 x hx2
  have ej : k + 1 - s.length = k - s.length + 1 := by omega
  have hth := those_get_cnt hx
  have hlt : cntB s (k - s.length) x < (those s x).length := by
    rcases Nat.lt_or_ge (cntB s (k - s.length) x) (those s x).length with q | q
    · exact q
    · rw [List.getElem?_eq_none q] at hth; cases hth
  have hmono : ∀ {b c}, b < c → fromC s b + (those s b).length ≤ fromC s c := fun {b c} hbc => fromC_mono s (show b + 1 ≤ c by omega)
  have hpos : fromC s x + cntB s (k - s.length) x < s.length := by
    have h1 := hmono hx2; rw [fromC_all h256] at h1; omega
  have hl1 : ∀ b i, b < 256 → i < cntB s (k + 1 - s.length) b → (L.set (N.getD x 0) (k - s.length)).getD (fromC s b + i) 0 = (those s b).getD i 0 := by
    intro b i hb hi
    rw [ej, cntB_succ b hx] at hi
    rw [hNx, getD_set (by rw [h.ll]; exact hpos)]
    have hib : i < (those s b).length := by
      have := cntB_le s (k - s.length + 1) b; rw [cntB_succ b hx] at this; omega
    by_cases e : fromC s x + cntB s (k - s.length) x = fromC s b + i
    · rw [if_pos e]
      have hbx : x = b := by
        rcases Nat.lt_trichotomy x b with q | q | q
        · have := hmono q; omega
        · exact q
        · have := hmono q; omega
      subst hbx
      have hi2 : i = cntB s (k - s.length) x := by omega
      subst hi2
      rw [List.getD_eq_getElem?_getD, hth]; rfl
    · rw [if_neg e]
      refine h.l1 hk.1 (by omega) b i hb ?_
      by_cases q : x = b
      · subst q; rw [if_pos rfl] at hi; omega
      · rw [if_neg q] at hi; exact hi
  refine ⟨by simp [h.nl], by simp [h.ll], fun q => by omega, fun _ _ b hb => ?_, fun _ _ => hl1, fun q => ?_, fun _ => h.at1 (by omega), fun q => ?_⟩
  · rw [getD_set (by rw [h.nl]; omega), ej, cntB_succ b hx, h.n1 hk.1 hk.2 b hb, hNx]
    split
    · rename_i e; subst e; omega
    · rfl
  · have e2 : k + 1 = 2 * s.length := by omega
    refine Inv.full h256 (by simp [h.ll]) (fun b i hb hi => hl1 b i hb ?_)
    rw [cntB_all (by omega)]; exact hi
  · have e2 : k + 1 - 2 * s.length = 0 := by omega
    rw [e2]; exact h.at1 (by omega)
theorem Inv.step2 {s N L out : List Nat} {o k a : Nat} (h : Inv s o k N L a out) (hk : 2 * s.length ≤ k) : Inv s o (k + 1) N L (L.getD a 0) (out ++ [s.getD (L.getD a 0) 0]) := by
  have h2 := h.at2 hk
  have e : k + 1 - 2 * s.length = (k - 2 * s.length) + 1 := by omega
  refine ⟨h.nl, h.ll, fun q => by omega, fun q => by omega, fun q q2 => by omega, fun q => h.l2 hk, fun q => by omega, fun q => ?_⟩
  rw [e, outI_succ, h2.2]; simp only [atI]; rw [← h2.1]; exact ⟨rfl, rfl⟩
theorem arrB_get {A B : List Value} {o : List Nat} {i : Nat} : (A ++ o.map nv ++ B)[A.length + o.length + i]? = B[i]? := by
  rw [List.getElem?_append_right (by simp <;> omega)]; congr 1; simp <;> omega
theorem arrB_set {A B : List Value} {o : List Nat} {i : Nat} {v : Value} : (A ++ o.map nv ++ B).set (A.length + o.length + i) v = A ++ o.map nv ++ B.set i v := by
  rw [List.set_append_right _ _ (by simp <;> omega)]; congr 2; simp <;> omega
theorem nv_get {l : List Nat} {i : Nat} (h : i < l.length) : (l.map nv)[i]? = some (nv (l.getD i 0)) := by
  rw [List.getElem?_map, List.getD_eq_getElem?_getD, List.getElem?_eq_getElem h]; rfl
theorem ivget {S : Value} {N : List Nat} {B : List Value} {j : Nat} (i : Nat) (hN : N.length = 256) (hj : j = 257 + i) : ([S] ++ N.map nv ++ B)[j]? = B[i]? := by
  subst hj; rw [show 257 + i = [S].length + N.length + i by simp [hN] <;> omega]; exact arrB_get
theorem ivset {S v : Value} {N : List Nat} {B : List Value} {j : Nat} (i : Nat) (hN : N.length = 256) (hj : j = 257 + i) : ([S] ++ N.map nv ++ B).set j v = [S] ++ N.map nv ++ B.set i v := by
  subst hj; rw [show 257 + i = [S].length + N.length + i by simp [hN] <;> omega]; exact arrB_set
theorem ivn_get {S : Value} {N : List Nat} {B : List Value} {x j : Nat} (hN : N.length = 256) (hx : x < 256) (hj : j = 1 + x) : ([S] ++ N.map nv ++ B)[j]? = some (nv (N.getD x 0)) := by
  subst hj; exact arr_get (A := [S]) (by omega)
theorem ivn_set {S : Value} {N : List Nat} {B : List Value} {x v j : Nat} (hN : N.length = 256) (hx : x < 256) (hj : j = 1 + x) : ([S] ++ N.map nv ++ B).set j (nv v) = [S] ++ (N.set x v).map nv ++ B := by
  subst hj; exact arr_set (A := [S]) (by omega)
def IvR (s : List Nat) (o k b : Nat) (lb : Nat) (oa : Option Addr) (g : Nat → Option Blk) : Prop :=
  ∃ (N L : List Nat) (a ocp : Nat) (out : List Nat), Inv s o k N L a out ∧ g b = some ⟨[.string (txt s)] ++ N.map nv ++ [.slice (some ⟨lb, 0, none⟩) s.length 1, nv a, .slice oa out.length ocp, nv k], 186, 0⟩ ∧ g lb = some ⟨L.map nv, 3, 1⟩ ∧ SlR 5 1 (out.map bv) oa out.length ocp g ∧ (∀ x ∈ out, x < 256) ∧ out.length ≤ k
section
variable {ov : OvT} (H : OvH ov)
include H
theorem ivBegins_cr {h : Heap} {c b e : Nat} {S : Value} {N : List Nat} {B : List Value} (hb : h.get b = some ⟨[S] ++ N.map nv ++ B, e, 0⟩) (hN : N.length = 256) (hbd : N.sum < 2 ^ 60) (hc : b < c) :
    CR Tryz.prog ov 197 [ptr b] ⟨h, c⟩ (fun v st => (∃ N' : List Nat, N'.length = 256 ∧ (∀ i, i < 256 → N'.getD i 0 = (N.take i).sum) ∧ st.heap.get b = some ⟨[S] ++ N'.map nv ++ B, e, 0⟩) ∧ Keep [b] h c st) := by
  have hagg : partA Tryz.prog 184 ([S] ++ N.map nv ++ B) (0 + 1) = some (.agg (N.map nv).toArray) := by
    rw [p184.1, if_pos (by simp [hN])]
    rw [show ([S] ++ N.map nv ++ B).drop (0 + 1) = N.map nv ++ B from rfl, List.take_append_of_le_length (by simp [hN]), List.take_of_length_le (by simp [hN])]
  have hle : ∀ i, (N.take i).sum ≤ N.sum := by
    intro i
    have := congrArg List.sum (List.take_append_drop i N); rw [List.sum_append] at this; omega
  refine e_1 Tryz.func197 rfl (H _ (by decide)) Tryz.ntmps197 (by decide) ?_
  intro env hl
  refine sg 1 rfl (qA hl rfl (nK (sg 5 rfl (qM hl rfl (qN hl rfl (qF hl rfl fa186_1 (qL hl rfl (by first | assumption | (simp only [gs]; rfl) | (simp [gs]; try rfl)) hagg ?_)))))))
  refine qM hl rfl (nK (rB ?_))
  refine rL (fun m env' s' => ∃ j, m = 256 - j ∧ j ≤ 256 ∧ ∃ N' : List Nat, Hd 23 [(0, ptr b), (2, nv ((N.take j).sum)), (8, .agg (N.map nv).toArray), (9, nv j)] env' ∧ N'.length = 256 ∧ (∀ i, i < j → N'.getD i 0 = (N.take i).sum) ∧ s'.heap.get b = some ⟨[S] ++ N'.map nv ++ B, e, 0⟩ ∧ Keep [b] h c s') 256 ?_ ?_
  · exact ⟨0, rfl, by omega, N, Ho hl ⟨rfl, rfl, rfl, rfl, trivial⟩, hN, fun i hi => by omega, hb, Keep.refl (by omega)⟩
  rintro m _ ⟨h2, c2⟩ ⟨j, rfl, hj, N', ⟨env, hl, rfl⟩, hN', hNv, hb2, hK⟩
  dsimp only at hb2
  refine sg 1 rfl (qB hl rfl rfl rfl (nK (rS ?_)))
  refine rC hl rfl (fun hj2 => ?_) (fun hj2 => ?_)
  · try simp only [dz, dy] at hj2
    have hjn : j < N.length := by omega
    have htk : (N.take (j + 1)).sum = (N.take j).sum + N.getD j 0 := by rw [List.take_add_one, List.getElem?_eq_getElem hjn, Option.toList_some, List.sum_append, List.getD_eq_getElem?_getD, List.getElem?_eq_getElem hjn]; simp
    have h1 := hle (j + 1)
    refine rK (kN (rS (rB (sg 4 rfl (qM hl rfl (q_index hl rfl rfl (evIndexA Tryz.underlying184 p3 (by omega) (by have := nv_get hjn; simpa using this)) (v := nv (N.getD j 0)) ?_))))))
    refine qA hl rfl (qA hl rfl (nK (sg 7 rfl (qM hl rfl (qM hl rfl (qM hl rfl (qN hl rfl (qF hl rfl fa186_1 (q_indexAddrA hl rfl rfl Tryz.underlying184 i3 s3 ⟨by omega, by omega⟩ ?_)))))))))
    refine qW hl rfl rfl (by first | assumption | (simp only [gs]; rfl) | (simp [gs]; try rfl)) p3 rfl rfl (by simp [hN']; omega) ?_
    refine nK (rg 4 rfl (qM hl rfl (qM hl rfl (qP hl rfl rfl (m := ((N.take (j + 1)).sum : Nat)) (by rw [wrapI (by omega) (by omega), htk]; omega) ?_))))
    refine qA hl rfl (rN (kO (kN (rg 2 rfl (qP hl rfl rfl (by first | exact wI (by omega) | exact wU (by omega) | exact wB (by omega) | exact wL (by omega) | rfl) ?_)))))
    refine qM hl rfl (nK ?_)
    refine ⟨256 - (j + 1), by omega, j + 1, rfl, by omega, N'.set j ((N.take j).sum), Ho hl ⟨rfl, rfl, rfl, rfl, trivial⟩, by simp [hN'], fun i hi => ?_, ?_, (hK.up (by omega)).set (.inr (by simp))⟩
    · rw [getD_set (by omega)]; split
      · rename_i e9; rw [e9]
      · exact hNv i (by omega)
    · dsimp only; rw [T.get_set, if_pos rfl]
      rw [show 0 + 1 + ((j : Nat) : Int).toNat * 1 = [S].length + j by simp <;> omega, arr_set (by omega)]
  · try simp only [dz, dy] at hj2
    refine r_exit (kE (kE (kB (f_0 rfl (.inr rfl) ?_))))
    have e9 : j = 256 := by omega
    subst e9
    exact ⟨⟨N', hN', hNv, hb2⟩, hK.up (by omega)⟩
theorem ivStep_cr {h : Heap} {c b lb o k : Nat} {s : List Nat} {oa : Option Addr} (hP : IvR s o k b lb oa h.get) (hc : b < c ∧ lb < c ∧ ∀ z ∈ own oa, z < c) (h256 : ∀ x ∈ s, x < 256) (hn : s.length ≤ 900000) (ho : o < s.length) (hk : k < 3 * s.length) :
    CR Tryz.prog ov 173 [ptr b] ⟨h, c⟩ (fun v st => (∃ oa', IvR s o (k + 1) b lb oa' st.heap.get ∧ ∀ z ∈ own oa', z ∈ own oa ∨ c ≤ z ∧ z < st.ctr) ∧ Keep (b :: lb :: own oa) h c st) := by
  obtain ⟨N, L, a, ocp, out, hI, hb, hL, hS, h0256, hok⟩ := id hP
  have hNl := hI.nl
  have hLl := hI.ll
  have hsz := txt_size s
  have hbl : b ≠ lb := blk_ne hb hL (by dsimp only; decide)
  have hbo := own_ne hS hb (by dsimp only; decide)
  have hlo := own_ne hS hL (by dsimp only; decide)
  have hqr : ∃ q i, k = s.length * q + i ∧ i < s.length ∧ q ≤ 2 ∧ k / s.length = q ∧ k % s.length = i := by
    refine ⟨k / s.length, k % s.length, (Nat.div_add_mod k s.length).symm, Nat.mod_lt _ (by omega), ?_, rfl, rfl⟩
    have := (Nat.div_lt_iff_lt_mul (show 0 < s.length by omega)).mpr hk; omega
  obtain ⟨q, i, hki, hi, hq2, e1, e2⟩ := hqr
  have e1' : (k : Int) / (s.length : Int) = (q : Int) := by rw [← e1]; simp
  have e2' : (k : Int) % (s.length : Int) = (i : Int) := by rw [← e2]; simp
  obtain ⟨x, hx⟩ : ∃ x, s[i]? = some x := ⟨_, List.getElem?_eq_getElem hi⟩
  have hx2 := h256 x (List.mem_of_getElem? hx)
  have hxn : (UInt8.ofNat x).toNat = x := by simp [UInt8.toNat_ofNat, Nat.mod_eq_of_lt hx2]
  have hti : (txt s)[((i : Nat) : Int).toNat]? = some (UInt8.ofNat x) := txt_get hx
  rcases (by omega : q = 0 ∨ q = 1 ∨ q = 2) with rfl | rfl | rfl
  · have hki2 : k = i := by omega
    subst hki2
    have hNx : N.getD x 0 ≤ 900000 := by rw [hI.n0 hi x hx2]; have := idx_le ((s.map (· == x)).take k) 0; rw [List.length_take, List.length_map] at this; simp only [cntB]; omega
    have hNl2 : (N.set x (N.getD x 0 + 1)).length = 256 := by simp [hNl]
    by_cases hk1 : k + 1 = s.length
    · have hM := hI.last h256 hk1 hx
      have hsm := cnt_sum hNl2 hM
      have hsumN : (N.set x (N.getD x 0 + 1)).sum < 2 ^ 60 := by
        have := hsm 256 (Nat.le_refl _); rw [List.take_of_length_le (by omega), fromC_all h256] at this; omega
      refine e_1 Tryz.func173 rfl (H _ (by decide)) Tryz.ntmps173 (by decide) ?_
      intro env hl
      refine sg 6 rfl (qM hl rfl (qN hl rfl (qF hl rfl fa186_0 (qL hl rfl (by first | assumption | (simp only [gs, hb1]; rfl) | (simp [gs, hb1]; try rfl)) ((p9.1 _ _).trans rfl) ?_))))
      refine qK hl rfl Tryz.underlying9 (qA hl rfl (nK (sg 7 rfl ?_)))
      rw [hsz]
      refine qM hl rfl (qN hl rfl (qF hl rfl fa186_5 (qL hl rfl (by first | assumption | (simp only [gs, hb1]; rfl) | (simp [gs, hb1]; try rfl)) ((p3.1 _ _).trans (ivget 3 hNl rfl)) (v := nv k) ?_)))
      refine qM hl rfl (q_rem hl rfl rfl ⟨by omega, by omega⟩ ?_)
      refine qA hl rfl (nK (rS (sg 6 rfl ?_)))
      simp only [e2']
      refine qM hl rfl (qN hl rfl (qF hl rfl fa186_5 (qL hl rfl (by first | assumption | (simp only [gs, hb1]; rfl) | (simp [gs, hb1]; try rfl)) ((p3.1 _ _).trans (ivget 3 hNl rfl)) (v := nv k) ?_)))
      refine qM hl rfl (q_quo hl rfl rfl ⟨by omega, by omega⟩ (by rw [e1']; exact wrapI (by omega) (by omega)) ?_)
      refine nK (rB (sg 2 rfl ?_))
      simp only [e1']
      refine qB hl rfl rfl rfl (qA hl rfl (nK (rT hl rfl (by rfl) ?_)))
      refine rS (rD [] (by decide +kernel) (by decide +kernel) (n := 16) rfl ?_)
      refine qM hl rfl (qM hl rfl (qN hl rfl (qF hl rfl fa186_0 (qL hl rfl (by first | assumption | (simp only [gs, hb1]; rfl) | (simp [gs, hb1]; try rfl)) ((p9.1 _ _).trans rfl) ?_))))
      refine qM hl rfl (qJ hl rfl rfl Tryz.underlying9 (by omega) hti ?_)
      simp only [hxn]
      refine qN hl rfl (qF hl rfl fa186_1 (q_indexAddrA hl rfl rfl Tryz.underlying184 i3 s3 ⟨by omega, by omega⟩ ?_))
      refine qL hl rfl (by first | assumption | (simp only [gs, hb1]; rfl) | (simp [gs, hb1]; try rfl)) (by exact (p3.1 _ _).trans (ivn_get hNl hx2 (by omega))) (v := nv (N.getD x 0)) ?_
      refine qP hl rfl rfl (m := ((N.getD x 0 + 1 : Nat) : Int)) (by rw [wrapI (by omega) (by omega)]; omega) ?_
      refine qN hl rfl (qF hl rfl fa186_1 (q_indexAddrA hl rfl rfl Tryz.underlying184 i3 s3 ⟨by omega, by omega⟩ ?_))
      refine qW hl rfl rfl (by first | assumption | (simp only [gs, hb1]; rfl) | (simp [gs, hb1]; try rfl)) p3 rfl rfl (by simp [hNl]; omega) ?_
      refine ro_nild (kN (sg 4 rfl ?_))
      have e69 : ([Value.string (txt s)] ++ N.map nv ++ [Value.slice (some ⟨lb, 0, none⟩) s.length 1, nv a, .slice oa out.length ocp, nv k]).set (0 + 1 + ((x : Nat) : Int).toNat * 1) (nv (N.getD x 0 + 1 : Nat)) = [Value.string (txt s)] ++ (N.set x (N.getD x 0 + 1)).map nv ++ [Value.slice (some ⟨lb, 0, none⟩) s.length 1, nv a, .slice oa out.length ocp, nv k] := ivn_set hNl hx2 (by omega)
      simp only [e69]
      refine qM hl rfl (qM hl rfl (q_sub hl rfl rfl (by first | exact wI (by omega) | exact wU (by omega) | exact wB (by omega) | exact wL (by omega) | rfl) ?_))
      refine qB hl rfl rfl rfl (nK (rT hl rfl (by simp; omega) ?_))
      refine rg 2 rfl (qM hl rfl (qC hl rfl (CR.mono (ivBegins_cr H (S := .string (txt s)) (N := (N.set x (N.getD x 0 + 1))) (B := [Value.slice (some ⟨lb, 0, none⟩) s.length 1, nv a, .slice oa out.length ocp, nv k]) ((T.get_set _ _ _ _).trans (if_pos rfl)) hNl2 hsumN (by omega)) ?_)))
      rintro v ⟨hh1, cc1⟩ ⟨⟨N', hN', hNv, hb1⟩, hKb⟩
      refine rN (kO (kN (rg 8 rfl ?_)))
      have hcc1 := hKb.1
      dsimp only at hcc1 hb1
      have hI2 := hI.step0' h256 hk1 hx hN' hNv
      refine qM hl rfl (qN hl rfl (qF hl rfl fa186_5 (qL hl rfl (by first | assumption | (simp only [gs, hb1]; rfl) | (simp [gs, hb1]; try rfl)) ((p3.1 _ _).trans (ivget 3 hN' rfl)) (v := nv k) ?_)))
      refine qP hl rfl rfl (by first | exact wI (by omega) | exact wU (by omega) | exact wB (by omega) | exact wL (by omega) | rfl) ?_
      refine qN hl rfl (qF hl rfl fa186_5 (qW hl rfl rfl (by first | assumption | (simp only [gs, hb1]; rfl) | (simp [gs, hb1]; try rfl)) p3 rfl rfl (by simp [hN']) ?_))
      refine rN (f_0 rfl (.inr rfl) ?_)
      have e9 : ([Value.string (txt s)] ++ N'.map nv ++ [Value.slice (some ⟨lb, 0, none⟩) s.length 1, nv a, .slice oa out.length ocp, nv k]).set (0 + 260) (nv (k + 1 : Nat)) = [Value.string (txt s)] ++ N'.map nv ++ [Value.slice (some ⟨lb, 0, none⟩) s.length 1, nv a, .slice oa out.length ocp, nv (k + 1 : Nat)] := ivset 3 hN' rfl
      refine ⟨⟨oa, ⟨N', L, a, ocp, out, hI2, ?_, ?_, hS.move ?_, h0256, by omega⟩, fun z hz => .inl hz⟩, ?_⟩
      · dsimp only; rw [T.get_set, if_pos rfl]; exact congrArg (fun l => some (Blk.mk l 186 0)) e9
      · dsimp only; rw [T.get_set, if_neg hbl.symm, hKb.2 lb (by omega) (by simpa using hbl.symm), T.get_set, if_neg hbl.symm]; exact hL
      · intro z hz; have hzb : z ≠ b := fun e => hbo (e ▸ hz)
        dsimp only; rw [T.get_set, if_neg hzb, hKb.2 z (by have := hc.2.2 z hz; omega) (by simpa using hzb), T.get_set, if_neg hzb]
      · have k1 := ((Keep.refl (W := b :: lb :: own oa) (h := h) (Nat.le_refl c)).set (nm := b) (B := ⟨[Value.string (txt s)] ++ (N.set x (N.getD x 0 + 1)).map nv ++ [Value.slice (some ⟨lb, 0, none⟩) s.length 1, nv a, .slice oa out.length ocp, nv k], 186, 0⟩) (.inr (by simp))).up (c3 := c + 6 + 7 + 6 + 2 + 16 + 4 + 2) (by omega)
        exact ((k1.call hKb (fun z hz => .inr (by simp only [List.mem_singleton] at hz; simp [hz]))).set (nm := b) (.inr (by simp))).up (by omega)
    · have hI2 := hI.step0 h256 (by omega) hx
      refine e_1 Tryz.func173 rfl (H _ (by decide)) Tryz.ntmps173 (by decide) ?_
      intro env hl
      refine sg 6 rfl (qM hl rfl (qN hl rfl (qF hl rfl fa186_0 (qL hl rfl (by first | assumption | (simp only [gs]; rfl) | (simp [gs]; try rfl)) ((p9.1 _ _).trans rfl) ?_))))
      refine qK hl rfl Tryz.underlying9 (qA hl rfl (nK (sg 7 rfl ?_)))
      rw [hsz]
      refine qM hl rfl (qN hl rfl (qF hl rfl fa186_5 (qL hl rfl (by first | assumption | (simp only [gs]; rfl) | (simp [gs]; try rfl)) ((p3.1 _ _).trans (ivget 3 hNl rfl)) (v := nv k) ?_)))
      refine qM hl rfl (q_rem hl rfl rfl ⟨by omega, by omega⟩ ?_)
      refine qA hl rfl (nK (rS (sg 6 rfl ?_)))
      simp only [e2']
      refine qM hl rfl (qN hl rfl (qF hl rfl fa186_5 (qL hl rfl (by first | assumption | (simp only [gs]; rfl) | (simp [gs]; try rfl)) ((p3.1 _ _).trans (ivget 3 hNl rfl)) (v := nv k) ?_)))
      refine qM hl rfl (q_quo hl rfl rfl ⟨by omega, by omega⟩ (by rw [e1']; exact wrapI (by omega) (by omega)) ?_)
      refine nK (rB (sg 2 rfl ?_))
      simp only [e1']
      refine qB hl rfl rfl rfl (qA hl rfl (nK (rT hl rfl (by rfl) ?_)))
      refine rS (rD [] (by decide +kernel) (by decide +kernel) (n := 16) rfl ?_)
      refine qM hl rfl (qM hl rfl (qN hl rfl (qF hl rfl fa186_0 (qL hl rfl (by first | assumption | (simp only [gs]; rfl) | (simp [gs]; try rfl)) ((p9.1 _ _).trans rfl) ?_))))
      refine qM hl rfl (qJ hl rfl rfl Tryz.underlying9 (by omega) hti ?_)
      simp only [hxn]
      refine qN hl rfl (qF hl rfl fa186_1 (q_indexAddrA hl rfl rfl Tryz.underlying184 i3 s3 ⟨by omega, by omega⟩ ?_))
      refine qL hl rfl (by first | assumption | (simp only [gs]; rfl) | (simp [gs]; try rfl)) (by exact (p3.1 _ _).trans (ivn_get hNl hx2 (by omega))) (v := nv (N.getD x 0)) ?_
      refine qP hl rfl rfl (m := ((N.getD x 0 + 1 : Nat) : Int)) (by rw [wrapI (by omega) (by omega)]; omega) ?_
      refine qN hl rfl (qF hl rfl fa186_1 (q_indexAddrA hl rfl rfl Tryz.underlying184 i3 s3 ⟨by omega, by omega⟩ ?_))
      refine qW hl rfl rfl (by first | assumption | (simp only [gs]; rfl) | (simp [gs]; try rfl)) p3 rfl rfl (by simp [hNl]; omega) ?_
      refine ro_nild (kN (sg 4 rfl ?_))
      have e69 : ([Value.string (txt s)] ++ N.map nv ++ [Value.slice (some ⟨lb, 0, none⟩) s.length 1, nv a, .slice oa out.length ocp, nv k]).set (0 + 1 + ((x : Nat) : Int).toNat * 1) (nv (N.getD x 0 + 1 : Nat)) = [Value.string (txt s)] ++ (N.set x (N.getD x 0 + 1)).map nv ++ [Value.slice (some ⟨lb, 0, none⟩) s.length 1, nv a, .slice oa out.length ocp, nv k] := ivn_set hNl hx2 (by omega)
      simp only [e69]
      refine qM hl rfl (qM hl rfl (q_sub hl rfl rfl (by first | exact wI (by omega) | exact wU (by omega) | exact wB (by omega) | exact wL (by omega) | rfl) ?_))
      refine qB hl rfl rfl rfl (nK (rF hl rfl (by simp; omega) ?_))
      refine rK (kO (kN (rg 8 rfl (qM hl rfl (qN hl rfl (qF hl rfl fa186_5 (qL hl rfl (by first | assumption | (simp only [gs]; rfl) | (simp [gs]; try rfl)) ((p3.1 _ _).trans (ivget 3 hNl2 rfl)) (v := nv k) ?_)))))))
      refine qP hl rfl rfl (by first | exact wI (by omega) | exact wU (by omega) | exact wB (by omega) | exact wL (by omega) | rfl) ?_
      refine qN hl rfl (qF hl rfl fa186_5 (qW hl rfl rfl (by first | assumption | (simp only [gs]; rfl) | (simp [gs]; try rfl)) p3 rfl rfl (by simp [hNl]) ?_))
      refine rN (f_0 rfl (.inr rfl) ?_)
      have e9 : ([Value.string (txt s)] ++ (N.set x (N.getD x 0 + 1)).map nv ++ [Value.slice (some ⟨lb, 0, none⟩) s.length 1, nv a, .slice oa (out.length) ocp, nv k]).set (0 + 260) (nv (k + 1 : Nat)) = [Value.string (txt s)] ++ (N.set x (N.getD x 0 + 1)).map nv ++ [Value.slice (some ⟨lb, 0, none⟩) s.length 1, nv a, .slice oa (out.length) ocp, nv (k + 1 : Nat)] := ivset 3 hNl2 rfl
      refine ⟨⟨oa, ⟨(N.set x (N.getD x 0 + 1)), L, a, ocp, out, hI2, ?_, ?_, hS.move ?_, h0256, by omega⟩, fun z hz => .inl hz⟩, ?_⟩
      · dsimp only; rw [T.get_set, if_pos rfl]; exact congrArg (fun l => some (Blk.mk l 186 0)) e9
      · dsimp only; rw [T.get_set, if_neg hbl.symm, T.get_set, if_neg hbl.symm]; exact hL
      · intro z hz; have hzb : z ≠ b := fun e => hbo (e ▸ hz)
        dsimp only; rw [T.get_set, if_neg hzb, T.get_set, if_neg hzb]
      · exact (((Keep.refl (Nat.le_refl c)).set (nm := b) (.inr (by simp))).set (nm := b) (.inr (by simp))).up (by omega)
  · have hkn : k - s.length = i := by omega
    have hx' : s[k - s.length]? = some x := by rw [hkn]; exact hx
    have hI2 := hI.step1 h256 ⟨by omega, by omega⟩ hx'
    rw [hkn] at hI2
    have hpos := hI.pos1 h256 ⟨by omega, by omega⟩ hx'
    have hNl2 : (N.set x (N.getD x 0 + 1)).length = 256 := by simp [hNl]
    have hLs : ∀ v : Nat, (L.map nv).set (N.getD x 0) (nv v) = (L.set (N.getD x 0) v).map nv := fun v => (List.map_set).symm
    · skip
      refine e_1 Tryz.func173 rfl (H _ (by decide)) Tryz.ntmps173 (by decide) ?_
      intro env hl
      refine sg 6 rfl (qM hl rfl (qN hl rfl (qF hl rfl fa186_0 (qL hl rfl (by first | assumption | (simp only [gs, hb, hbl, if_false]; rfl) | (simp [gs, hb, hbl, if_false]; try rfl)) ((p9.1 _ _).trans rfl) ?_))))
      refine qK hl rfl Tryz.underlying9 (qA hl rfl (nK (sg 7 rfl ?_)))
      rw [hsz]
      refine qM hl rfl (qN hl rfl (qF hl rfl fa186_5 (qL hl rfl (by first | assumption | (simp only [gs, hb, hbl, if_false]; rfl) | (simp [gs, hb, hbl, if_false]; try rfl)) ((p3.1 _ _).trans (ivget 3 hNl rfl)) (v := nv k) ?_)))
      refine qM hl rfl (q_rem hl rfl rfl ⟨by omega, by omega⟩ ?_)
      refine qA hl rfl (nK (rS (sg 6 rfl ?_)))
      simp only [e2']
      refine qM hl rfl (qN hl rfl (qF hl rfl fa186_5 (qL hl rfl (by first | assumption | (simp only [gs, hb, hbl, if_false]; rfl) | (simp [gs, hb, hbl, if_false]; try rfl)) ((p3.1 _ _).trans (ivget 3 hNl rfl)) (v := nv k) ?_)))
      refine qM hl rfl (q_quo hl rfl rfl ⟨by omega, by omega⟩ (by rw [e1']; exact wrapI (by omega) (by omega)) ?_)
      refine nK (rB (sg 2 rfl ?_))
      simp only [e1']
      refine qB hl rfl rfl rfl (qA hl rfl (nK (rF hl rfl (by first | rfl | (simp only [dz]; omega) | (simp; done) | (simp; omega)) ?_)))
      refine sg 2 rfl (qB hl rfl rfl rfl (qA hl rfl (nK (rT hl rfl (by first | rfl | (simp only [dz]; omega) | (simp; done) | (simp; omega)) ?_))))
      refine sg 7 rfl (qM hl rfl (qN hl rfl (qF hl rfl fa186_0 (qL hl rfl (by first | assumption | (simp only [gs, hb, hbl, if_false]; rfl) | (simp [gs, hb, hbl, if_false]; try rfl)) ((p9.1 _ _).trans rfl) ?_))))
      refine qM hl rfl (qJ hl rfl rfl Tryz.underlying9 (by omega) hti ?_)
      refine qA hl rfl (nK (rS (rD [] (by decide +kernel) (by decide +kernel) (n := 13) rfl ?_)))
      simp only [hxn]
      refine qM hl rfl (qN hl rfl (qF hl rfl fa186_2 (qL hl rfl (by first | assumption | (simp only [gs, hb, hbl, if_false]; rfl) | (simp [gs, hb, hbl, if_false]; try rfl)) ((p171.1 _ _).trans (ivget 0 hNl rfl)) (v := .slice (some ⟨lb, 0, none⟩) s.length 1) ?_)))
      refine qM hl rfl (qM hl rfl (qN hl rfl (qF hl rfl fa186_1 (q_indexAddrA hl rfl rfl Tryz.underlying184 i3 s3 ⟨by omega, by omega⟩ ?_))))
      refine qL hl rfl (by first | assumption | (simp only [gs, hb, hbl, if_false]; rfl) | (simp [gs, hb, hbl, if_false]; try rfl)) (by exact (p3.1 _ _).trans (ivn_get hNl hx2 (by omega))) (v := nv (N.getD x 0)) ?_
      refine qM hl rfl (qI hl rfl rfl e171 ⟨by omega, by omega⟩ ?_)
      refine qW hl rfl rfl (by first | assumption | (simp only [gs, hb, hbl, if_false]; rfl) | (simp [gs, hb, hbl, if_false]; try rfl)) p3 rfl rfl (by simp only [List.length_map]; omega) ?_
      refine ro_nild (kN (rD [] (by decide +kernel) (by decide +kernel) (n := 11) rfl ?_))
      refine qM hl rfl (qM hl rfl (qN hl rfl (qF hl rfl fa186_1 (q_indexAddrA hl rfl rfl Tryz.underlying184 i3 s3 ⟨by omega, by omega⟩ ?_))))
      refine qL hl rfl (by first | assumption | (simp only [gs, hb, hbl, if_false]; rfl) | (simp [gs, hb, hbl, if_false]; try rfl)) (by exact (p3.1 _ _).trans (ivn_get hNl hx2 (by omega))) (v := nv (N.getD x 0)) ?_
      refine qP hl rfl rfl (m := ((N.getD x 0 + 1 : Nat) : Int)) (by rw [wrapI (by omega) (by omega)]; omega) ?_
      refine qN hl rfl (qF hl rfl fa186_1 (q_indexAddrA hl rfl rfl Tryz.underlying184 i3 s3 ⟨by omega, by omega⟩ ?_))
      refine qW hl rfl rfl (by first | assumption | (simp only [gs, hb, hbl, if_false]; rfl) | (simp [gs, hb, hbl, if_false]; try rfl)) p3 rfl rfl (by simp [hNl]; omega) ?_
      refine ro_nild (kO (kN (rg 8 rfl ?_)))
      have e69 : ([Value.string (txt s)] ++ N.map nv ++ [Value.slice (some ⟨lb, 0, none⟩) s.length 1, nv a, .slice oa (out.length) ocp, nv k]).set (0 + 1 + ((x : Nat) : Int).toNat * 1) (nv (N.getD x 0 + 1 : Nat)) = [Value.string (txt s)] ++ (N.set x (N.getD x 0 + 1)).map nv ++ [Value.slice (some ⟨lb, 0, none⟩) s.length 1, nv a, .slice oa (out.length) ocp, nv k] := ivn_set hNl hx2 (by omega)
      simp only [e69]
      refine qM hl rfl (qN hl rfl (qF hl rfl fa186_5 (qL hl rfl (by first | assumption | (simp only [gs, hb, hbl, if_false]; rfl) | (simp [gs, hb, hbl, if_false]; try rfl)) ((p3.1 _ _).trans (ivget 3 hNl2 rfl)) (v := nv k) ?_)))
      refine qP hl rfl rfl (by first | exact wI (by omega) | exact wU (by omega) | exact wB (by omega) | exact wL (by omega) | rfl) ?_
      refine qN hl rfl (qF hl rfl fa186_5 (qW hl rfl rfl (by first | assumption | (simp only [gs, hb, hbl, if_false]; rfl) | (simp [gs, hb, hbl, if_false]; try rfl)) p3 rfl rfl (by simp [hNl]) ?_))
      refine rN (f_0 rfl (.inr rfl) ?_)
      have e9 : ([Value.string (txt s)] ++ (N.set x (N.getD x 0 + 1)).map nv ++ [Value.slice (some ⟨lb, 0, none⟩) s.length 1, nv a, .slice oa (out.length) ocp, nv k]).set (0 + 260) (nv (k + 1 : Nat)) = [Value.string (txt s)] ++ (N.set x (N.getD x 0 + 1)).map nv ++ [Value.slice (some ⟨lb, 0, none⟩) s.length 1, nv a, .slice oa (out.length) ocp, nv (k + 1 : Nat)] := ivset 3 hNl2 rfl
      refine ⟨⟨oa, ⟨(N.set x (N.getD x 0 + 1)), (L.set (N.getD x 0) i), a, ocp, out, hI2, ?_, ?_, hS.move ?_, h0256, by omega⟩, fun z hz => .inl hz⟩, ?_⟩
      · dsimp only; rw [T.get_set, if_pos rfl]; exact congrArg (fun l => some (Blk.mk l 186 0)) e9
      · dsimp only; rw [T.get_set, if_neg hbl.symm, T.get_set, if_neg hbl.symm, T.get_set, if_pos rfl, show 0 + ((N.getD x 0 : Nat) : Int).toNat * 1 = N.getD x 0 by omega, hLs]
      · intro z hz; have hzb : z ≠ b := fun e => hbo (e ▸ hz)
        have hzl : z ≠ lb := fun e => hlo (e ▸ hz)
        dsimp only; rw [T.get_set, if_neg hzb, T.get_set, if_neg hzb, T.get_set, if_neg hzl]
      · exact ((((Keep.refl (Nat.le_refl c)).set (nm := lb) (.inr (by simp))).set (nm := b) (.inr (by simp))).set (nm := b) (.inr (by simp))).up (by omega)
  · have hkn : k - 2 * s.length = i := by omega
    have hI2 := hI.step2 (by omega)
    have hLo := hI.l2 (by omega)
    have ha : a < s.length := by rw [(hI.at2 (by omega)).1, hLo]; exact atI_lt h256 ho _
    have hav : L.getD a 0 < s.length := by
      have h1 := atI_lt h256 ho (k - 2 * s.length + 1)
      simp only [atI] at h1; rw [← hLo, ← (hI.at2 (by omega)).1] at h1; exact h1
    obtain ⟨y, hy⟩ : ∃ y, s[L.getD a 0]? = some y := ⟨_, List.getElem?_eq_getElem hav⟩
    have hyd : s.getD (L.getD a 0) 0 = y := by rw [List.getD_eq_getElem?_getD, hy]; rfl
    have hy2 := h256 y (List.mem_of_getElem? hy)
    have hyn : (UInt8.ofNat y).toNat = y := by simp [UInt8.toNat_ofNat, Nat.mod_eq_of_lt hy2]
    have hty : (txt s)[((L.getD a 0 : Nat) : Int).toNat]? = some (UInt8.ofNat y) := txt_get hy
    rw [hyd] at hI2
    · skip
      refine e_1 Tryz.func173 rfl (H _ (by decide)) Tryz.ntmps173 (by decide) ?_
      intro env hl
      refine sg 6 rfl (qM hl rfl (qN hl rfl (qF hl rfl fa186_0 (qL hl rfl (by first | assumption | (simp only [gs, hb]; rfl) | (simp [gs, hb]; try rfl)) ((p9.1 _ _).trans rfl) ?_))))
      refine qK hl rfl Tryz.underlying9 (qA hl rfl (nK (sg 7 rfl ?_)))
      rw [hsz]
      refine qM hl rfl (qN hl rfl (qF hl rfl fa186_5 (qL hl rfl (by first | assumption | (simp only [gs, hb]; rfl) | (simp [gs, hb]; try rfl)) ((p3.1 _ _).trans (ivget 3 hNl rfl)) (v := nv k) ?_)))
      refine qM hl rfl (q_rem hl rfl rfl ⟨by omega, by omega⟩ ?_)
      refine qA hl rfl (nK (rS (sg 6 rfl ?_)))
      simp only [e2']
      refine qM hl rfl (qN hl rfl (qF hl rfl fa186_5 (qL hl rfl (by first | assumption | (simp only [gs, hb]; rfl) | (simp [gs, hb]; try rfl)) ((p3.1 _ _).trans (ivget 3 hNl rfl)) (v := nv k) ?_)))
      refine qM hl rfl (q_quo hl rfl rfl ⟨by omega, by omega⟩ (by rw [e1']; exact wrapI (by omega) (by omega)) ?_)
      refine nK (rB (sg 2 rfl ?_))
      simp only [e1']
      refine qB hl rfl rfl rfl (qA hl rfl (nK (rF hl rfl (by first | rfl | (simp only [dz]; omega) | (simp; done) | (simp; omega)) ?_)))
      refine sg 2 rfl (qB hl rfl rfl rfl (qA hl rfl (nK (rF hl rfl (by first | rfl | (simp only [dz]; omega) | (simp; done) | (simp; omega)) ?_))))
      refine rS (rD [] (by decide +kernel) (by decide +kernel) (n := 14) rfl ?_)
      refine qM hl rfl (qM hl rfl (qN hl rfl (qF hl rfl fa186_2 (qL hl rfl (by first | assumption | (simp only [gs, hb]; rfl) | (simp [gs, hb]; try rfl)) ((p171.1 _ _).trans (ivget 0 hNl rfl)) (v := .slice (some ⟨lb, 0, none⟩) s.length 1) ?_))))
      refine qM hl rfl (qN hl rfl (qF hl rfl fa186_3 (qL hl rfl (by first | assumption | (simp only [gs, hb]; rfl) | (simp [gs, hb]; try rfl)) ((p3.1 _ _).trans (ivget 1 hNl rfl)) (v := nv a) ?_)))
      refine qI hl rfl rfl e171 ⟨by omega, by omega⟩ ?_
      refine qL hl rfl (by first | assumption | (simp only [gs, hb]; rfl) | (simp [gs, hb]; try rfl)) (by exact (p3.1 _ _).trans (by rw [show 0 + ((a : Nat) : Int).toNat * 1 = a by omega]; exact nv_get (l := L) (i := a) (by omega))) (v := nv (L.getD a 0)) ?_
      refine qN hl rfl (qF hl rfl fa186_3 (qW hl rfl rfl (by first | assumption | (simp only [gs, hb]; rfl) | (simp [gs, hb]; try rfl)) p3 rfl rfl (by simp [hNl]) ?_))
      refine ro_nild (kN (rD [] (by decide +kernel) (by decide +kernel) (n := 19) rfl ?_))
      have e34 : ([Value.string (txt s)] ++ N.map nv ++ [Value.slice (some ⟨lb, 0, none⟩) s.length 1, nv a, .slice oa (out.length) ocp, nv k]).set (0 + 258) (nv (L.getD a 0)) = [Value.string (txt s)] ++ N.map nv ++ [Value.slice (some ⟨lb, 0, none⟩) s.length 1, nv (L.getD a 0), .slice oa (out.length) ocp, nv k] := ivset 1 hNl rfl
      simp only [e34]
      refine qM hl rfl (qM hl rfl (qN hl rfl (qF hl rfl fa186_4 (qL hl rfl (by first | assumption | (simp only [gs, hb]; rfl) | (simp [gs, hb]; try rfl)) ((p102.1 _ _).trans (ivget 2 hNl rfl)) (v := .slice oa out.length ocp) ?_))))
      refine qM hl rfl (qN hl rfl (qF hl rfl fa186_0 (qL hl rfl (by first | assumption | (simp only [gs, hb]; rfl) | (simp [gs, hb]; try rfl)) ((p9.1 _ _).trans rfl) ?_)))
      refine qM hl rfl (qN hl rfl (qF hl rfl fa186_3 (qL hl rfl (by first | assumption | (simp only [gs, hb]; rfl) | (simp [gs, hb]; try rfl)) ((p3.1 _ _).trans (ivget 1 hNl rfl)) (v := nv (L.getD a 0)) ?_)))
      refine qJ hl rfl rfl Tryz.underlying9 (by omega) hty ?_
      simp only [hyn]
      refine q1_ hl rfl a102 rfl (qX hl rfl rfl a102 a102 (hS.move (fun z hz => by have hzb : z ≠ b := (fun e => hbo (e ▸ hz)); have := hc.2.2 z hz; rw [T.get_set, if_neg (by omega), T.get_set, if_neg hzb])) ((T.get_set _ _ _ _).trans (if_pos rfl)) rfl (by omega) (by omega) ?_)
      intro a2 cp3 h4 hS4 hO4 hF4
      have hb4 := (hF4 b (by omega) hbo).trans ((T.get_set _ _ _ _).trans ((if_neg (by omega)).trans ((T.get_set _ _ _ _).trans (if_pos rfl))))
      refine qN hl rfl (qF hl rfl fa186_4 (qW hl rfl rfl (by first | assumption | (simp only [gs, hb]; rfl) | (simp [gs, hb]; try rfl)) p102 rfl rfl (by simp [hNl]) ?_))
      refine ro_nild (kO (kN (rg 8 rfl ?_)))
      have e52 : ([Value.string (txt s)] ++ N.map nv ++ [Value.slice (some ⟨lb, 0, none⟩) s.length 1, nv (L.getD a 0), .slice oa (out.length) ocp, nv k]).set (0 + 259) (.slice a2 (out.length + 1) cp3) = [Value.string (txt s)] ++ N.map nv ++ [Value.slice (some ⟨lb, 0, none⟩) s.length 1, nv (L.getD a 0), .slice a2 (out.length + 1) cp3, nv k] := ivset 2 hNl rfl
      simp only [e52]
      refine qM hl rfl (qN hl rfl (qF hl rfl fa186_5 (qL hl rfl (by first | assumption | (simp only [gs, hb]; rfl) | (simp [gs, hb]; try rfl)) ((p3.1 _ _).trans (ivget 3 hNl rfl)) (v := nv k) ?_)))
      refine qP hl rfl rfl (by first | exact wI (by omega) | exact wU (by omega) | exact wB (by omega) | exact wL (by omega) | rfl) ?_
      refine qN hl rfl (qF hl rfl fa186_5 (qW hl rfl rfl (by first | assumption | (simp only [gs, hb]; rfl) | (simp [gs, hb]; try rfl)) p3 rfl rfl (by simp [hNl]) ?_))
      refine rN (f_0 rfl (.inr rfl) ?_)
      have e9 : ([Value.string (txt s)] ++ N.map nv ++ [Value.slice (some ⟨lb, 0, none⟩) s.length 1, nv (L.getD a 0), .slice a2 (out.length + 1) cp3, nv k]).set (0 + 260) (nv (k + 1 : Nat)) = [Value.string (txt s)] ++ N.map nv ++ [Value.slice (some ⟨lb, 0, none⟩) s.length 1, nv (L.getD a 0), .slice a2 (out.length + 1) cp3, nv (k + 1 : Nat)] := ivset 3 hNl rfl
      have hO5 : ∀ z ∈ own a2, c ≤ z ∧ z ≠ b ∧ z < c + 200 := fun z hz => by have := hO4 z hz; omega
      refine ⟨⟨a2, ⟨N, L, L.getD a 0, cp3, out ++ [y], hI2, ?_, ?_, ?_, ?_, by simp; omega⟩, fun z hz => .inr (by have := hO4 z hz; dsimp only; omega)⟩, ?_⟩
      · dsimp only; rw [T.get_set, if_pos rfl]; rw [List.length_append]; exact congrArg (fun l => some (Blk.mk l 186 0)) e9
      · dsimp only; rw [T.get_set, if_neg hbl.symm, T.get_set, if_neg hbl.symm, hF4 lb (by omega) hlo, T.get_set, if_neg (by omega), T.get_set, if_neg hbl.symm]; exact hL
      · rw [List.map_append, List.length_append]; exact hS4.move (fun z hz => by have := (hO5 z hz).2.1; dsimp only; rw [T.get_set, if_neg this, T.get_set, if_neg this])
      · intro w hw; rcases List.mem_append.mp hw with q | q
        · exact h0256 w q
        · simp only [List.mem_singleton] at q; omega
      · exact (((((Keep.refl (Nat.le_refl c)).set (nm := b) (.inr (by simp))).app2 hF4 (fun z hz => .inr (by simp [hz])) (by omega) (by omega) (Nat.le_refl _)).set (nm := b) (.inr (by simp))).set (nm := b) (.inr (by simp))).up (by omega)
end
theorem z186 : Tryz.t186.zero = some (.agg ([nostr] ++ (List.replicate 256 0).map nv ++ [nilS, nv 0, nilS, nv 0]).toArray) := by kernel_rfl
theorem z186p : plain (.agg ([nostr] ++ (List.replicate 256 0).map nv ++ [nilS, nv 0, nilS, nv 0]).toArray) = true := by kernel_rfl
theorem built186 (S : ByteArray) (a : Option Addr) (n cp : Nat) (o : Int) : Program.built Tryz.prog 186 [(0, .string S), (2, .slice a n cp), (3, iv o)] = some ([Value.string S] ++ (List.replicate 256 0).map nv ++ [Value.slice a n cp, iv o, nilS, nv 0]).toArray := by
  simp [Program.built, Instr.fill, Tryz.underlying186, Value.cells]; rfl
section
variable {ov : OvT} (H : OvH ov)
include H
theorem ivNew_cr {h : Heap} {c o : Nat} {s : List Nat} (hn : s.length ≤ 900000) (ho : o < s.length) :
    CR Tryz.prog ov 135 [.string (txt s), nv o] ⟨h, c⟩ (fun v st => ∃ b lb, v = .tuple #[ptr b, nv 0] ∧ IvR s o 0 b lb none st.heap.get ∧ (c ≤ b ∧ b < st.ctr) ∧ (c ≤ lb ∧ lb < st.ctr) ∧ Keep [] h c st) := by
  have hsz := txt_size s
  have h1 : decide ((o : Int) < 0) = false := by simp
  have hne : ((txt s).toList == (⟨#[]⟩ : ByteArray).toList) = false := by cases s with | nil => simp at ho | cons x s => simp [txt, Go.ByteArray.toList_eq]
  refine e_2 Tryz.func135 rfl (H _ (by decide)) Tryz.ntmps135 (by decide) ?_
  intro env hl
  refine sg 2 rfl (qA hl rfl (qA hl rfl (nK (rS (rB (sg 3 rfl (qM hl rfl (qB hl rfl rfl rfl (qA hl rfl (nK (rF hl rfl (by exact hne) ?_)))))))))))
  refine sg 4 rfl (qM hl rfl (qK hl rfl Tryz.underlying9 ?_))
  rw [hsz]
  refine qB hl rfl rfl rfl (qA hl rfl (nK (rF hl rfl (by first | rfl | (simp only [dz]; omega) | (simp; done) | (simp; omega)) ?_)))
  refine sg 9 rfl (qM hl rfl (qB hl rfl rfl rfl (qM hl rfl (qG hl rfl rfl rfl h1 (qM hl rfl (qG hl rfl rfl rfl h1 (qM hl rfl (qG hl rfl rfl rfl h1 (qK hl rfl Tryz.underlying9 (qG hl rfl rfl rfl h1 ?_))))))))))
  rw [hsz]
  refine qB hl rfl rfl rfl (qQ hl rfl rfl rfl (if_neg (by rw [h1]; decide)) ?_)
  refine qA hl rfl (nK (rF hl rfl (by first | rfl | (simp only [dz]; omega) | (simp; done) | (simp; omega)) ?_))
  refine rK (kO (kN (sg 9 rfl (qM hl rfl (qM hl rfl (qK hl rfl Tryz.underlying9 ?_))))))
  rw [hsz]
  refine q_makeSlice hl rfl rfl Tryz.underlying171 i3 z3 rfl s3 b3 rfl (by omega) (by omega) ?_
  refine qM hl rfl (qU hl rfl i186 z186 z186p (built186 _ _ _ _ _) (q_box hl rfl (qA hl rfl (qA hl rfl (nK (rR (f_2 hl rfl (.inl rfl) rfl rfl ?_)))))))
  refine ⟨c + 2 + 3 + 4 + 9 + 6, c + 2 + 3 + 4 + 9 + 3, rfl, ⟨List.replicate 256 0, List.replicate s.length 0, o, 0, [], ⟨by simp, by simp, fun _ b hb => ?_, fun q => by omega, fun q => by omega, fun q => by omega, fun _ => ⟨rfl, rfl⟩, fun q => by omega⟩, ?_, ?_, SlR.nil, by simp, Nat.zero_le _⟩, ⟨by omega, by dsimp only; omega⟩, ⟨by omega, by dsimp only; omega⟩, (((Keep.refl (Nat.le_refl c)).set (.inl (by omega))).set (.inl (by omega))).up (by omega)⟩
  · rw [List.getD_eq_getElem?_getD, List.getElem?_replicate, if_pos hb]; simp [cntB, idx]
  · dsimp only; rw [T.get_set, if_pos rfl]; rfl
  · dsimp only; rw [T.get_set, if_neg (by omega), T.get_set, if_pos rfl]; simp
theorem ivDone_cr {h : Heap} {c b lb o k : Nat} {s : List Nat} {oa : Option Addr} (hP : IvR s o k b lb oa h.get) (hn : s.length ≤ 900000) :
    CR Tryz.prog ov 132 [ptr b] ⟨h, c⟩ (fun v st => v = .bool (k == 3 * s.length) ∧ Same h c st) := by
  obtain ⟨N, L, a, ocp, out, hI, hb, hL, hS, h0256, hok⟩ := id hP
  have hNl := hI.nl
  have hsz := txt_size s
  refine e_1 Tryz.func132 rfl (H _ (by decide)) Tryz.ntmps132 (by decide) ?_
  intro env hl
  refine sg 1 rfl (qA hl rfl (nK (rS (rD [] (by decide +kernel) (by decide +kernel) (n := 16) rfl ?_))))
  refine qM hl rfl (qB hl rfl rfl (nn147 _) (qM hl rfl (qG hl rfl rfl rfl rfl (qM hl rfl (qG hl rfl rfl rfl rfl (qN hl rfl (qG hl rfl rfl rfl rfl (qF hl rfl fa186_5 (qG hl rfl rfl rfl rfl (qL hl rfl (by assumption) ((p3.1 _ _).trans (ivget 3 hNl rfl)) (v := nv k) ?_))))))))))
  refine qG hl rfl rfl rfl rfl (qM hl rfl (qG hl rfl rfl rfl rfl (qN hl rfl (qG hl rfl rfl rfl rfl (qF hl rfl fa186_0 (qG hl rfl rfl rfl rfl (qL hl rfl (by assumption) ((p9.1 _ _).trans rfl) ?_)))))))
  refine qG hl rfl rfl rfl rfl (qK hl rfl Tryz.underlying9 (qG hl rfl rfl rfl rfl ?_))
  rw [hsz]
  refine q_mul hl rfl rfl (by first | exact wI (by omega) | exact wU (by omega) | exact wB (by omega) | exact wL (by omega) | rfl) ?_
  refine qG hl rfl rfl rfl rfl (qB hl rfl rfl rfl (qQ hl rfl rfl rfl (if_pos rfl) (qA hl rfl (ro_nild (kN (rR (f_1 hl rfl (.inl rfl) rfl ?_)))))))
  refine ⟨?_, rfl, by simp <;> omega⟩
  congr 1; rw [Bool.eq_iff_iff]; simp; omega
theorem ivTake_cr {h : Heap} {c b lb o k : Nat} {s : List Nat} {oa : Option Addr} (hP : IvR s o k b lb oa h.get) (hk : k = 3 * s.length) (hn : s.length ≤ 900000) (h0 : 0 < s.length) :
    CR Tryz.prog ov 137 [ptr b] ⟨h, c⟩ (fun v st => v = .string (txt (unbw s o)) ∧ Keep [b] h c st) := by
  obtain ⟨N, L, a, ocp, out, hI, hb, hL, hS, h0256, hok⟩ := id hP
  have hNl := hI.nl
  have hout : out = unbw s o := by rw [(hI.at2 (by omega)).2, hI.l2 (by omega), show k - 2 * s.length = s.length by omega]; rfl
  refine e_1 Tryz.func137 rfl (H _ (by decide)) Tryz.ntmps137 (by decide) ?_
  intro env hl
  refine sg 1 rfl (qA hl rfl (nK (rS (sg 2 rfl (qM hl rfl (qB hl rfl rfl (nq147 _) (nK (rF hl rfl (by first | rfl | (simp only [dz]; omega) | (simp; done) | (simp; omega)) ?_))))))))
  refine rK (kN (sg 6 rfl (qM hl rfl (qN hl rfl (qF hl rfl fa186_4 (qL hl rfl (by assumption) ((p102.1 _ _).trans (ivget 2 hNl rfl)) (v := .slice oa out.length ocp) ?_))))))
  refine qY hl rfl Tryz.underlying102 Tryz.underlying9 Tryz.underlying5 (bs := out.map UInt8.ofNat) (by rw [txt_cells h0256]; exact hS) ?_
  refine qA hl rfl (nK (sg 4 rfl (qM hl rfl (qN hl rfl (qF hl rfl fa186_4 (qW hl rfl rfl (by assumption) p102 rfl rfl (by simp [hNl]) ?_))))))
  refine nK (sg 2 rfl (qM hl rfl (qA hl rfl (nK (rR (f_1 hl rfl (.inl rfl) rfl ?_))))))
  exact ⟨by rw [← hout]; rfl, ((Keep.refl (Nat.le_refl c)).set (nm := b) (.inr (by simp))).up (by omega)⟩
theorem ivLoop_cr {h : Heap} {c b lb o : Nat} {s : List Nat} (hP : IvR s o 0 b lb none h.get) (hc : b < c ∧ lb < c) (h256 : ∀ x ∈ s, x < 256) (hn : s.length ≤ 900000) (ho : o < s.length) :
    CR Tryz.prog ov 136 [ptr b, iv (3 * (s.length : Int))] ⟨h, c⟩ (fun v st => (∃ oa, IvR s o (3 * s.length) b lb oa st.heap.get ∧ ∀ z ∈ own oa, c ≤ z) ∧ Keep [b, lb] h c st) := by
  obtain ⟨N, L, a, ocp, out, hI, hb, hL, hS, h0256, hok⟩ := id hP
  have hNl := hI.nl
  refine e_2 Tryz.func136 rfl (H _ (by decide)) Tryz.ntmps136 (by decide) ?_
  intro env hl
  refine sg 1 rfl (qA hl rfl (nK (rS (sg 2 rfl (qM hl rfl (qB hl rfl rfl (nq147 _) (nK (rF hl rfl (by first | rfl | (simp only [dz]; omega) | (simp; done) | (simp; omega)) ?_))))))))
  refine rK (kN (sg 5 rfl (qM hl rfl (qN hl rfl (qF hl rfl fa186_5 (qL hl rfl (by assumption) ((p3.1 _ _).trans (ivget 3 hNl rfl)) (v := nv 0) ?_))))))
  refine qA hl rfl (nK (rS (rB ?_)))
  refine rL (fun m env' s' => ∃ k, m = 3 * s.length - k ∧ k ≤ 3 * s.length ∧ ∃ oa, Hd 33 [(0, ptr b), (1, iv (3 * (s.length : Int))), (5, nv 0)] env' ∧ IvR s o k b lb oa s'.heap.get ∧ (∀ z ∈ own oa, c ≤ z ∧ z < s'.ctr) ∧ Keep [b, lb] h c s') (3 * s.length) ?_ ?_
  · exact ⟨0, rfl, Nat.zero_le _, none, Ho hl ⟨rfl, rfl, rfl, trivial⟩, hP, by simp [own], Keep.refl (by omega)⟩
  rintro m _ ⟨h2, c2⟩ ⟨k, rfl, hk, oa, ⟨env, hl, rfl⟩, hP2, hO2, hK2⟩
  dsimp only at hP2 hO2
  have hcc := hK2.1
  dsimp only at hcc
  obtain ⟨N2, L2, a2, ocp2, out2, hI2, hb2, _⟩ := id hP2
  refine rS (sg 13 rfl (qM hl rfl (qC hl rfl (CR.mono (ivDone_cr H hP2 hn) ?_))))
  rintro v ⟨hh1, cc1⟩ ⟨rfl, rfl, hk⟩
  try dsimp only at hk
  refine q_un hl rfl rfl (qM hl rfl ?_)
  refine q_case hl (rfl : lk _ _ 15 = _) (fun hg => ?_) (fun hg => ?_)
  · have hg_ := hg
    try simp only [dz] at hg_
    refine qG hl rfl rfl rfl hg (qM hl rfl (qG hl rfl rfl rfl hg (qN hl rfl (qG hl rfl rfl rfl hg (qF hl rfl fa186_5 (qG hl rfl rfl rfl hg (qL hl rfl (by assumption) ((p3.1 _ _).trans (ivget 3 hI2.nl rfl)) (v := nv k) ?_)))))))
    refine qG hl rfl rfl rfl hg (qM hl rfl (qG hl rfl rfl rfl hg (q_sub hl rfl rfl (by first | exact wI (by omega) | exact wU (by omega) | exact wB (by omega) | exact wL (by omega) | rfl) ?_)))
    refine qG hl rfl rfl rfl hg (qM hl rfl (qG hl rfl rfl rfl hg (qB hl rfl rfl rfl (qQ hl rfl rfl rfl (if_pos hg) (nK (rT hl rfl (by simp at hg_; simp; omega) ?_))))))
    refine rK (kN (rB (rg 2 rfl (qM hl rfl (qC hl rfl (CR.mono (ivStep_cr H hP2 ⟨by omega, by omega, fun z hz => by have := hO2 z hz; omega⟩ h256 hn ho (by simp at hg_; omega)) ?_))))))
    rintro v ⟨hh2, cc2⟩ ⟨⟨oa', hP3, hO3⟩, hK3⟩
    refine rN (kO (kN ?_))
    refine ⟨3 * s.length - (k + 1), by simp at hg_; omega, k + 1, rfl, by simp at hg_; omega, oa', Ho hl ⟨rfl, rfl, rfl, trivial⟩, hP3, fun z hz => ?_, (hK2.up (by omega)).call hK3 ?_⟩
    · have hcc3 := hK3.1; dsimp only at *; rcases hO3 z hz with q | q
      · have := hO2 z q; omega
      · omega
    · intro z hz; simp only [List.mem_cons] at hz; rcases hz with q | q | q
      · right; simp [q]
      · right; simp [q]
      · left; exact (hO2 z q).1
  · have hg_ := hg
    try simp only [dz] at hg_
    refine qS hl rfl rfl rfl rfl (by rw [hg]; decide) ?_
    refine qS hl rfl rfl rfl rfl (by rw [hg]; decide) ?_
    refine qS hl rfl rfl rfl rfl (by rw [hg]; decide) ?_
    refine qS hl rfl rfl rfl rfl (by rw [hg]; decide) ?_
    refine qS hl rfl rfl rfl rfl (by rw [hg]; decide) ?_
    refine qS hl rfl rfl rfl rfl (by rw [hg]; decide) ?_
    refine qS hl rfl rfl rfl rfl (by rw [hg]; decide) ?_
    refine qS hl rfl rfl rfl rfl (by rw [hg]; decide) ?_
    refine qQ hl rfl rfl rfl (if_neg (by rw [hg]; decide)) ?_
    refine nK (rF hl rfl (by first | rfl | (simp only [dz]; omega) | (simp; done) | (simp; omega)) ?_)
    refine r_exit (kE (kE (kB (kN (sg 7 rfl (qM hl rfl (qN hl rfl (qF hl rfl fa186_5 (qL hl rfl (by assumption) ((p3.1 _ _).trans (ivget 3 hI2.nl rfl)) (v := nv k) ?_)))))))))
    refine qM hl rfl (q_sub hl rfl rfl (by first | exact wI (by omega) | exact wU (by omega) | exact wB (by omega) | exact wL (by omega) | rfl) ?_)
    refine qA hl rfl (nK (rR (f_1 hl rfl (.inl rfl) rfl ?_)))
    have ek : k = 3 * s.length := by simp at hg_; omega
    subst ek
    exact ⟨⟨oa, hP2, fun z hz => (hO2 z hz).1⟩, hK2.up (by omega)⟩
theorem unbwtOf_cr {h : Heap} {c o : Nat} {s : List Nat} (h256 : ∀ x ∈ s, x < 256) (hn : s.length ≤ 900000) (ho : o < s.length) :
    CR Tryz.prog ov 106 [.string (txt s), nv o] ⟨h, c⟩ (fun v st => v = .tuple #[.string (txt (unbw s o)), nv 0] ∧ Keep [] h c st) := by
  have hsz := txt_size s
  refine e_2 Tryz.func106 rfl (H _ (by decide)) Tryz.ntmps106 (by decide) ?_
  intro env hl
  refine sg 2 rfl (qA hl rfl (qA hl rfl (nK (sg 8 rfl (qM hl rfl (qM hl rfl (qC hl rfl (CR.mono (ivNew_cr H hn ho) ?_))))))))
  rintro v ⟨hh1, cc1⟩ ⟨b, lb, rfl, hP, hb, hlb, hK⟩
  have hcc1 := hK.1
  dsimp only at hcc1 hP hb hlb
  refine qM hl rfl (qE hl rfl rfl (qE hl rfl rfl (qA hl rfl (qA hl rfl (nK (rS (sg 2 rfl (qM hl rfl (qB hl rfl rfl rfl (nK (rF hl rfl (by first | rfl | (simp only [dz]; omega) | (simp; done) | (simp; omega)) ?_)))))))))))
  refine rK (kN (sg 5 rfl (qM hl rfl (qM hl rfl (qK hl rfl Tryz.underlying9 ?_)))))
  rw [hsz]
  refine q_mul hl rfl rfl (by first | exact wI (by omega) | exact wU (by omega) | exact wB (by omega) | exact wL (by omega) | rfl) ?_
  refine qC hl rfl (CR.mono (ivLoop_cr H hP ⟨by omega, by omega⟩ h256 hn ho) ?_)
  rintro v ⟨hh2, cc2⟩ ⟨⟨oa, hP2, hO2⟩, hK2⟩
  refine nK (sg 4 rfl ?_)
  have hcc2 := hK2.1
  dsimp only at hcc2 hP2
  refine qM hl rfl (qC hl rfl (CR.mono (ivTake_cr H hP2 rfl hn (by omega)) ?_))
  rintro v ⟨hh3, cc3⟩ ⟨rfl, hK3⟩
  refine qA hl rfl (qA hl rfl (nK (rR (f_2 hl rfl (.inl rfl) rfl rfl ?_))))
  exact ⟨rfl, (((((hK.base (by omega)).up (c3 := cc1 + 2 + 5) (by omega)).call hK2 (fun z hz => by simp only [List.mem_cons, List.not_mem_nil, or_false] at hz; left; rcases hz with q | q <;> omega)).up (c3 := cc2 + 4) (by omega)).call hK3 (fun z hz => by simp only [List.mem_cons, List.not_mem_nil, or_false] at hz; left; omega)).up (by omega)⟩
end
def unpk : Nat → Nat → List Nat → Except Nat (List Nat)
  | run, _, [] => if run = 4 then .error 24 else .ok []
  | run, p, x :: r =>
    if run = 4 then if 251 < x then .error 25 else (unpk 0 x r).map (List.replicate x p ++ ·)
    else if 0 < run ∧ x = p then (unpk (run + 1) x r).map (x :: ·)
    else (unpk 1 x r).map (x :: ·)
def Out (s : List Nat) (out : List Nat) (rest : Except Nat (List Nat)) : Prop := unpk 0 0 s = rest.map (out ++ ·)
theorem Out.app {s out a : List Nat} {rest rest' : Except Nat (List Nat)} (h : Out s out rest') (e : rest' = rest.map (a ++ ·)) : Out s (out ++ a) rest := by
  unfold Out at *; rw [h, e]; cases rest <;> simp [Except.map]
theorem unpk_err {s : List Nat} : ∀ {run p e : Nat}, unpk run p s = .error e → e = 24 ∨ e = 25 := by
  induction s with
  | nil => intro run p e h; simp only [unpk] at h; split at h <;> cases h; simp
  | cons x s ih =>
    intro run p e h
    simp only [unpk] at h
    split at h
    · split at h
      · cases h; simp
      · cases hq : unpk 0 x s with
        | error e' => rw [hq] at h; cases h; exact ih hq
        | ok y => rw [hq] at h; cases h
    · split at h
      · cases hq : unpk (run + 1) x s with
        | error e' => rw [hq] at h; cases h; exact ih hq
        | ok y => rw [hq] at h; cases h
      · cases hq : unpk 1 x s with
        | error e' => rw [hq] at h; cases h; exact ih hq
        | ok y => rw [hq] at h; cases h
def DecG (h0 : Heap) (c0 vb : Nat) (out : List Nat) (h : Heap) (c : Nat) : Prop :=
  ∃ a cp, h.get vb = some ⟨[.slice a out.length cp], 102, 0⟩ ∧ SlR 5 1 (out.map bv) a out.length cp h.get ∧ (∀ x ∈ out, x < 256) ∧ (∀ z ∈ own a, c0 ≤ z ∧ z < c) ∧ c0 ≤ vb ∧ vb < c ∧ Keep [] h0 c0 ⟨h, c⟩
section
variable {ov : OvT} (H : OvH ov)
include H
theorem unpack_cr {h : Heap} {c g : Nat} {s : List Nat} {cap : List Value} {G : List Nat → Heap → Nat → Prop} (h256 : ∀ x ∈ s, x < 256) (hn : s.length ≤ 900000)
    (hup : ∀ out h c c', G out h c → c ≤ c' → G out h c')
    (hg : ∀ out h c x n, G out h c → out.length ≤ 251 * 900000 → x < 256 → n ≤ 251 → CR Tryz.prog ov g (bv x :: nv n :: cap) ⟨h, c⟩ (fun v st => G (out ++ List.replicate n x) st.heap st.ctr)) (h0 : G [] h c) :
    CR Tryz.prog ov 138 [.string (txt s), .func (.func g) #[] cap.toArray] ⟨h, c⟩ (fun v st => match unpk 0 0 s with
      | .ok out => v = nv 0 ∧ G out st.heap st.ctr
      | .error e => v = nv e ∧ ∃ out, G out st.heap st.ctr) := by
  have hsz := txt_size s
  refine e_2 Tryz.func138 rfl (H _ (by decide)) Tryz.ntmps138 (by decide) ?_
  intro env hl
  refine sg 1 rfl (qA hl rfl (nK (sg 1 rfl (qA hl rfl (nK (rS (sg 3 rfl (qM hl rfl (qK hl rfl Tryz.underlying9 ?_)))))))))
  rw [hsz]
  refine qM hl rfl (nK (rB ?_))
  refine rL (fun m env' s' => ∃ j run out, m = s.length - j ∧ j ≤ s.length ∧ run ≤ 4 ∧ (j = 0 → run = 0) ∧ Hd 52 [(0, .string (txt s)), (1, .func (.func g) #[] cap.toArray), (8, nv s.length), (9, nv j), (5, nv run)] env' ∧ G out s'.heap s'.ctr ∧ Out s out (unpk run (if j = 0 then 0 else s.getD (j - 1) 0) (s.drop j)) ∧ out.length ≤ 251 * j) s.length ?_ ?_
  · exact ⟨0, 0, [], rfl, Nat.zero_le _, by omega, fun _ => rfl, Ho hl ⟨rfl, rfl, rfl, rfl, rfl, trivial⟩, hup _ _ _ _ h0 (by dsimp only; omega), by unfold Out; cases h : unpk 0 0 s <;> simp [h, Except.map], by simp⟩
  rintro m _ ⟨h2, c2⟩ ⟨j, run, out, rfl, hj, hr4, hj0, ⟨env, hl, rfl⟩, hG, hO, hol⟩
  dsimp only at hG
  refine sg 1 rfl (qB hl rfl rfl rfl (nK (rS ?_)))
  refine rC hl rfl (fun hjn => ?_) (fun hjn => ?_)
  · try simp only [dz, dy] at hjn
    obtain ⟨x, hx⟩ : ∃ x, s[j]? = some x := ⟨_, List.getElem?_eq_getElem (by omega)⟩
    have hx2 := h256 x (List.mem_of_getElem? hx)
    have hxn : (UInt8.ofNat x).toNat = x := by simp [UInt8.toNat_ofNat, Nat.mod_eq_of_lt hx2]
    have hd : s.drop j = x :: s.drop (j + 1) := by rw [List.drop_eq_getElem_cons (by omega)]; rw [List.getElem?_eq_getElem (by omega)] at hx; rw [Option.some.inj hx]
    rw [hd] at hO
    have hsx : s.getD (j + 1 - 1) 0 = x := by rw [Nat.add_sub_cancel, List.getD_eq_getElem?_getD, hx]; rfl
    refine rK (kN (rS (rB (sg 2 rfl (qM hl rfl (qA hl rfl (nK (rS (rB (sg 3 rfl (qM hl rfl (qB hl rfl rfl rfl (qA hl rfl (nK ?_))))))))))))))
    refine rC hl rfl (fun hrun => ?_) (fun hrun => ?_)
    · try simp only [dz, dy] at hrun
      have hr : run = 4 := by omega
      subst hr
      have hj1 : j ≠ 0 := fun e => by have := hj0 e; omega
      rw [if_neg hj1] at hO
      obtain ⟨y, hy⟩ : ∃ y, s[j - 1]? = some y := ⟨_, List.getElem?_eq_getElem (by omega)⟩
      have hy2 := h256 y (List.mem_of_getElem? hy)
      have hyn : (UInt8.ofNat y).toNat = y := by simp [UInt8.toNat_ofNat, Nat.mod_eq_of_lt hy2]
      have hyd : s.getD (j - 1) 0 = y := by rw [List.getD_eq_getElem?_getD, hy]; rfl
      rw [hyd] at hO
      refine rS (sg 4 rfl (qM hl rfl (qM hl rfl (qJ hl rfl rfl Tryz.underlying9 (by omega) (txt_get hx) ?_))))
      simp only [hxn]
      refine qB hl rfl rfl rfl (nK ?_)
      refine rC hl rfl (fun hx251 => ?_) (fun hx251 => ?_)
      · try simp only [dz, dy] at hx251
        refine sg 1 rfl (qA hl rfl (nK (rR (kR (k_bloR (kR (k_bloR (kR (kR (k_bloR (kR (f_1 hl rfl (.inl rfl) rfl ?_))))))))))))
        have hu : unpk 0 0 s = .error 25 := by rw [show unpk 0 0 s = _ from hO]; simp only [unpk, if_true]; rw [if_pos (by omega)]; rfl
        rw [hu]; exact ⟨rfl, out, hup _ _ _ _ hG (by dsimp only; omega)⟩
      · try simp only [dz, dy] at hx251
        refine rK (kN (rS (rD [] (by decide +kernel) (by decide +kernel) (n := 10) rfl ?_)))
        refine qM hl rfl (qM hl rfl (qM hl rfl (q_sub hl rfl rfl (by first | exact wI (by omega) | exact wU (by omega) | exact wB (by omega) | exact wL (by omega) | rfl) ?_)))
        refine qJ hl rfl rfl Tryz.underlying9 (by omega) (by have := txt_get hy; rw [show ((j : Int) - 1).toNat = j - 1 by omega]; exact this) ?_
        simp only [hyn]
        refine qM hl rfl (qM hl rfl (qJ hl rfl rfl Tryz.underlying9 (by omega) (txt_get hx) ?_))
        simp only [hxn]
        refine qH hl rfl Tryz.underlying5 Tryz.underlying3 (by first | exact wI (by omega) | exact wU (by omega) | exact wB (by omega) | exact wL (by omega) | rfl) ?_
        refine q_callV hl rfl rfl (CR.mono (hg out _ _ y x (hup _ _ _ _ hG (by omega)) (by omega) hy2 (by omega)) ?_)
        rintro v ⟨h9, c9⟩ hG2
        refine ro_nild (kN (sg 1 rfl (qA hl rfl (nK (r_exit (k_bloN rfl (kE (kB (kN (rg 2 rfl (qP hl rfl rfl (by first | exact wI (by omega) | exact wU (by omega) | exact wB (by omega) | exact wL (by omega) | rfl) ?_)))))))))))
        refine qM hl rfl (nK ?_)
        have e1 : unpk 4 y (x :: s.drop (j + 1)) = (unpk 0 x (s.drop (j + 1))).map (List.replicate x y ++ ·) := by simp only [unpk, if_true]; rw [if_neg (by omega)]
        exact ⟨s.length - (j + 1), by omega, j + 1, 0, out ++ List.replicate x y, rfl, by omega, by omega, fun q => by omega, Ho hl ⟨rfl, rfl, rfl, rfl, rfl, trivial⟩, hup _ _ _ _ hG2 (by dsimp only; omega), by rw [if_neg (by omega), hsx]; exact hO.app e1, by simp; omega⟩
    · try simp only [dz, dy] at hrun
      have hr4' : run ≠ 4 := fun e => hrun (by omega)
      refine rS (rD [] (by decide +kernel) (by decide +kernel) (n := 13) rfl ?_)
      refine qM hl rfl (qB hl rfl rfl rfl (qM hl rfl ?_))
      refine q_case hl (rfl : lk _ _ 32 = _) (fun hrg => ?_) (fun hrg => ?_)
      · have hrg_ := hrg
        try simp only [dz] at hrg_
        have hj1 : j ≠ 0 := fun e => by have := hj0 e; omega
        obtain ⟨y, hy⟩ : ∃ y, s[j - 1]? = some y := ⟨_, List.getElem?_eq_getElem (by omega)⟩
        have hy2 := h256 y (List.mem_of_getElem? hy)
        have hyn : (UInt8.ofNat y).toNat = y := by simp [UInt8.toNat_ofNat, Nat.mod_eq_of_lt hy2]
        have hyd : s.getD (j - 1) 0 = y := by rw [List.getD_eq_getElem?_getD, hy]; rfl
        refine qG hl rfl rfl rfl hrg (qM hl rfl (qG hl rfl rfl rfl hrg (qM hl rfl (qG hl rfl rfl rfl hrg (qJ hl rfl rfl Tryz.underlying9 (by omega) (txt_get hx) ?_)))))
        refine qG hl rfl rfl rfl hrg ?_
        simp only [hxn]
        refine qM hl rfl (qG hl rfl rfl rfl hrg (qM hl rfl (qG hl rfl rfl rfl hrg (q_sub hl rfl rfl (by first | exact wI (by omega) | exact wU (by omega) | exact wB (by omega) | exact wL (by omega) | rfl) ?_))))
        refine qG hl rfl rfl rfl hrg (qJ hl rfl rfl Tryz.underlying9 (by omega) (by have := txt_get hy; rw [show ((j : Int) - 1).toNat = j - 1 by omega]; exact this) ?_)
        refine qG hl rfl rfl rfl hrg ?_
        simp only [hyn]
        refine qB hl rfl rfl rfl (qQ hl rfl rfl rfl (if_pos hrg) (qA hl rfl (ro_nild (kN ?_))))
        refine rC hl rfl (fun hxy => ?_) (fun hxy => ?_)
        · try simp only [dz, dy] at hxy
          refine rg 3 rfl (qM hl rfl (qP hl rfl rfl (by first | exact wI (by omega) | exact wU (by omega) | exact wB (by omega) | exact wL (by omega) | rfl) ?_))
          refine qA hl rfl (rN (kO (kN (rg 5 rfl (qM hl rfl (qM hl rfl (qM hl rfl (qJ hl rfl rfl Tryz.underlying9 (by omega) (txt_get hx) ?_))))))))
          simp only [hxn]
          refine q_callV hl rfl rfl (CR.mono (hg out _ _ x 1 (hup _ _ _ _ hG (by omega)) (by omega) hx2 (by omega)) ?_)
          rintro v ⟨h9, c9⟩ hG2
          refine rN (kO (kN (rg 2 rfl (qP hl rfl rfl (by first | exact wI (by omega) | exact wU (by omega) | exact wB (by omega) | exact wL (by omega) | rfl) ?_))))
          refine qM hl rfl (nK ?_)
          have e1 : unpk run (if j = 0 then 0 else s.getD (j - 1) 0) (x :: s.drop (j + 1)) = (unpk (run + 1) x (s.drop (j + 1))).map ([x] ++ ·) := by rw [if_neg hj1, hyd]; simp only [unpk]; rw [if_neg hr4', if_pos (by omega)]; rfl
          exact ⟨s.length - (j + 1), by omega, j + 1, run + 1, out ++ [x], rfl, by omega, by omega, fun q => by omega, Ho hl ⟨rfl, rfl, rfl, rfl, rfl, trivial⟩, hup _ _ _ _ hG2 (by dsimp only; omega), by rw [if_neg (by omega), hsx]; exact hO.app e1, by simp; omega⟩
        · try simp only [dz, dy] at hxy
          refine rg 1 rfl (qA hl rfl (rN (kO (kN (rg 5 rfl (qM hl rfl (qM hl rfl (qM hl rfl (qJ hl rfl rfl Tryz.underlying9 (by omega) (txt_get hx) ?_)))))))))
          simp only [hxn]
          refine q_callV hl rfl rfl (CR.mono (hg out _ _ x 1 (hup _ _ _ _ hG (by omega)) (by omega) hx2 (by omega)) ?_)
          rintro v ⟨h9, c9⟩ hG2
          refine rN (kO (kN (rg 2 rfl (qP hl rfl rfl (by first | exact wI (by omega) | exact wU (by omega) | exact wB (by omega) | exact wL (by omega) | rfl) ?_))))
          refine qM hl rfl (nK ?_)
          have e1 : unpk run (if j = 0 then 0 else s.getD (j - 1) 0) (x :: s.drop (j + 1)) = (unpk (1) x (s.drop (j + 1))).map ([x] ++ ·) := by rw [if_neg hj1, hyd]; simp only [unpk]; rw [if_neg hr4', if_neg (by omega)]; rfl
          exact ⟨s.length - (j + 1), by omega, j + 1, 1, out ++ [x], rfl, by omega, by omega, fun q => by omega, Ho hl ⟨rfl, rfl, rfl, rfl, rfl, trivial⟩, hup _ _ _ _ hG2 (by dsimp only; omega), by rw [if_neg (by omega), hsx]; exact hO.app e1, by simp; omega⟩
      · have hrg_ := hrg
        try simp only [dz] at hrg_
        refine qS hl rfl rfl rfl rfl (by rw [hrg]; decide) ?_
        refine qS hl rfl rfl rfl rfl (by rw [hrg]; decide) ?_
        refine qS hl rfl rfl rfl rfl (by rw [hrg]; decide) ?_
        refine qS hl rfl rfl rfl rfl (by rw [hrg]; decide) ?_
        refine qS hl rfl rfl rfl rfl (by rw [hrg]; decide) ?_
        refine qS hl rfl rfl rfl rfl (by rw [hrg]; decide) ?_
        refine qS hl rfl rfl rfl rfl (by rw [hrg]; decide) ?_
        refine qS hl rfl rfl rfl rfl (by rw [hrg]; decide) ?_
        refine qQ hl rfl rfl rfl (if_neg (by rw [hrg]; decide)) ?_
        refine qA hl rfl (ro_nild (kN (rF hl rfl (by first | rfl | (simp only [dz]; omega) | (simp; done) | (simp; omega)) ?_)))
        refine rg 1 rfl (qA hl rfl (rN (kO (kN (rg 5 rfl (qM hl rfl (qM hl rfl (qM hl rfl (qJ hl rfl rfl Tryz.underlying9 (by omega) (txt_get hx) ?_)))))))))
        simp only [hxn]
        refine q_callV hl rfl rfl (CR.mono (hg out _ _ x 1 (hup _ _ _ _ hG (by omega)) (by omega) hx2 (by omega)) ?_)
        rintro v ⟨h9, c9⟩ hG2
        refine rN (kO (kN (rg 2 rfl (qP hl rfl rfl (by first | exact wI (by omega) | exact wU (by omega) | exact wB (by omega) | exact wL (by omega) | rfl) ?_))))
        refine qM hl rfl (nK ?_)
        have e1 : unpk run (if j = 0 then 0 else s.getD (j - 1) 0) (x :: s.drop (j + 1)) = (unpk (1) x (s.drop (j + 1))).map ([x] ++ ·) := by simp only [unpk]; rw [if_neg hr4', if_neg (by omega)]; rfl
        exact ⟨s.length - (j + 1), by omega, j + 1, 1, out ++ [x], rfl, by omega, by omega, fun q => by omega, Ho hl ⟨rfl, rfl, rfl, rfl, rfl, trivial⟩, hup _ _ _ _ hG2 (by dsimp only; omega), by rw [if_neg (by omega), hsx]; exact hO.app e1, by simp; omega⟩
  · try simp only [dz, dy] at hjn
    have ej : j = s.length := by omega
    subst ej
    rw [List.drop_length] at hO
    refine r_exit (kE (kE (kB (kN (rS (sg 2 rfl (qM hl rfl (qB hl rfl rfl rfl (nK ?_)))))))))
    refine rC hl rfl (fun hrun => ?_) (fun hrun => ?_)
    · try simp only [dz, dy] at hrun
      refine sg 1 rfl (qA hl rfl (nK (rR (kR (f_1 hl rfl (.inl rfl) rfl ?_)))))
      have hu : unpk 0 0 s = .error 24 := by rw [show unpk 0 0 s = _ from hO]; simp only [unpk]; rw [if_pos (by omega)]; rfl
      rw [hu]; exact ⟨rfl, out, hup _ _ _ _ hG (by dsimp only; omega)⟩
    · try simp only [dz, dy] at hrun
      refine rK (kN (sg 1 rfl (qA hl rfl (nK (rR (f_1 hl rfl (.inl rfl) rfl ?_))))))
      have hu : unpk 0 0 s = .ok out := by rw [show unpk 0 0 s = _ from hO]; simp only [unpk]; rw [if_neg (by omega)]; simp [Except.map]
      rw [hu]; exact ⟨rfl, hup _ _ _ _ hG (by dsimp only; omega)⟩
theorem decF_cr {h h0 : Heap} {c c0 vb x n : Nat} {out : List Nat} (hG : DecG h0 c0 vb out h c) (hol : out.length ≤ 251 * 900000) (hx : x < 256) (hn : n ≤ 251) :
    CR Tryz.prog ov 139 [bv x, nv n, ptr vb] ⟨h, c⟩ (fun v st => DecG h0 c0 vb (out ++ List.replicate n x) st.heap st.ctr) := by
  refine e_3 Tryz.func139 rfl (H _ (by decide)) Tryz.ntmps139 (by decide) ?_
  intro env hl
  refine sg 2 rfl (qM hl rfl (qM hl rfl (nK (rB ?_))))
  refine rL (fun m env' s' => ∃ j, m = n - j ∧ j ≤ n ∧ Hd 13 [(0, bv x), (1, nv n), (2, ptr vb), (5, nv n), (6, nv j)] env' ∧ DecG h0 c0 vb (out ++ List.replicate j x) s'.heap s'.ctr) n ?_ ?_
  · refine ⟨0, rfl, Nat.zero_le _, Ho hl ⟨rfl, rfl, rfl, rfl, rfl, trivial⟩, ?_⟩
    obtain ⟨a, cp, h1, h2, h3, h4, h5, h6, h7⟩ := hG
    rw [List.replicate_zero, List.append_nil]; exact ⟨a, cp, h1, h2, h3, fun z hz => by have := h4 z hz; dsimp only; omega, h5, by dsimp only; omega, h7.up (by dsimp only; omega)⟩
  rintro m _ ⟨h2, c2⟩ ⟨j, rfl, hj, ⟨env, hl, rfl⟩, hG2⟩
  dsimp only at hG2
  refine sg 1 rfl (qB hl rfl rfl rfl (nK (rS ?_)))
  refine rC hl rfl (fun hjn => ?_) (fun hjn => ?_)
  · try simp only [dz, dy] at hjn
    obtain ⟨a, cp, hb, hS, h256, hO, hv0, hv1, hK⟩ := hG2
    have hbo := own_ne hS hb (by dsimp only; decide)
    have hle : (out ++ List.replicate j x).length ≤ 251 * 900001 := by simp; omega
    refine rK (kN (rS (rB (rg 5 rfl (qL hl rfl (by first | assumption | (simp only [gs]; rfl) | (simp [gs]; try rfl)) ((p102.1 _ _).trans rfl) ?_)))))
    refine qM hl rfl (q1_ hl rfl a102 rfl (qX hl rfl rfl a102 a102 (hS.move (fun z hz => by have := hO z hz; rw [T.get_set, if_neg (by omega)])) ((T.get_set _ _ _ _).trans (if_pos rfl)) rfl (by omega) (by omega) ?_))
    intro a2 cp3 h4 hS4 hO4 hF4
    have hb4 := (hF4 vb (by omega) hbo).trans ((T.get_set _ _ _ _).trans ((if_neg (by omega)).trans hb))
    refine qW hl rfl rfl (by first | assumption | (simp only [gs]; rfl) | (simp [gs]; try rfl)) p102 rfl rfl (by first | decide | (simp; done) | (simp; omega)) ?_
    refine rN (kO (kN (rg 2 rfl (qP hl rfl rfl (by first | exact wI (by omega) | exact wU (by omega) | exact wB (by omega) | exact wL (by omega) | rfl) ?_))))
    refine qM hl rfl (nK ?_)
    have hO5 : ∀ z ∈ own a2, z ≠ vb := fun z hz => by have := hO4 z hz; omega
    have er : out ++ List.replicate (j + 1) x = out ++ List.replicate j x ++ [x] := by rw [List.replicate_succ', List.append_assoc]
    refine ⟨n - (j + 1), by omega, j + 1, rfl, by omega, Ho hl ⟨rfl, rfl, rfl, rfl, rfl, trivial⟩, ?_⟩
    rw [er]
    refine ⟨a2, cp3, ?_, ?_, fun y hy => ?_, fun z hz => by have := hO4 z hz; have := hK.1; dsimp only at *; omega, hv0, by dsimp only; omega, ?_⟩
    · dsimp only; rw [T.get_set, if_pos rfl]; simp; omega
    · rw [List.map_append, List.length_append]; exact hS4.move (fun z hz => by dsimp only; rw [T.get_set, if_neg (hO5 z hz)])
    · rcases List.mem_append.mp hy with q | q
      · exact h256 y q
      · simp only [List.mem_singleton] at q; omega
    · have hcc := hK.1; dsimp only at hcc
      exact ((hK.app2 (c3 := c2) hF4 (fun z hz => .inl (hO z hz).1) (by omega) (by omega) (Nat.le_refl _)).set (nm := vb) (.inl hv0)).up (by dsimp only; omega)
  · try simp only [dz, dy] at hjn
    have ej : j = n := by omega
    subst ej
    obtain ⟨a, cp, hb, hS, h256, hO, hv0, hv1, hK⟩ := hG2
    refine r_exit (kE (kE (kB (f_0 rfl (.inr rfl) ?_))))
    exact ⟨a, cp, hb, hS, h256, fun z hz => by have := hO z hz; dsimp only; omega, hv0, by dsimp only; omega, hK.up (by dsimp only; omega)⟩
theorem decode_cr {h : Heap} {c : Nat} {s : List Nat} (h256 : ∀ x ∈ s, x < 256) (hn : s.length ≤ 900000) :
    CR Tryz.prog ov 107 [.string (txt s)] ⟨h, c⟩ (fun v st => (match unpk 0 0 s with
      | .ok out => v = .tuple #[.string (txt out), nv 0] ∧ ∀ x ∈ out, x < 256
      | .error e => v = .tuple #[nostr, nv e]) ∧ Keep [] h c st) := by
  have hU := fun (h1 : Heap) c1 (hG : DecG h c (c + 2) [] h1 c1) => unpack_cr H (h := h1) (c := c1) (g := 139) (cap := [ptr (c + 2)]) (G := DecG h c (c + 2)) h256 hn (fun out h c3 c4 q hc => by obtain ⟨a, cp, q1, q2, q3, q4, q5, q6, q7⟩ := q; exact ⟨a, cp, q1, q2, q3, fun z hz => by have := q4 z hz; omega, q5, by omega, q7.up hc⟩) (fun out h c3 x n q hol hx hn => decF_cr H q hol hx hn) hG
  cases hu : unpk 0 0 s with
  | error e =>
    have he := unpk_err hu
    simp only [hu] at hU
    refine e_1 Tryz.func107 rfl (H _ (by decide)) Tryz.ntmps107 (by decide) ?_
    intro env hl
    refine sg 2 rfl (qA hl rfl (qA hl rfl (nK (sg 1 rfl (qZ i102 z102 rfl (nK (sg 4 rfl (qM hl rfl (q_makeFunc hl rfl rfl (qC hl rfl (CR.mono (hU _ _ ⟨none, 0, (T.get_set _ _ _ _).trans (if_pos rfl), SlR.nil, by simp, by simp [own], by omega, by omega, ((Keep.refl (Nat.le_refl c)).set (.inl (by omega))).up (by omega)⟩) ?_)))))))))))
    rintro v ⟨hh1, cc1⟩ ⟨rfl, out, hG⟩
    refine qA hl rfl (nK (rS (sg 2 rfl (qM hl rfl (qB hl rfl rfl rfl (nK (rT hl rfl (by simp; omega) ?_)))))))
    refine sg 3 rfl (qM hl rfl (qA hl rfl (qA hl rfl (nK (rR (kR (f_2 hl rfl (.inl rfl) rfl rfl ?_)))))))
    obtain ⟨a, cp, q1, q2, q3, q4, q5, q6, q7⟩ := hG
    exact ⟨rfl, q7.up (by dsimp only; omega)⟩
  | ok out =>
    simp only [hu] at hU
    refine e_1 Tryz.func107 rfl (H _ (by decide)) Tryz.ntmps107 (by decide) ?_
    intro env hl
    refine sg 2 rfl (qA hl rfl (qA hl rfl (nK (sg 1 rfl (qZ i102 z102 rfl (nK (sg 4 rfl (qM hl rfl (q_makeFunc hl rfl rfl (qC hl rfl (CR.mono (hU _ _ ⟨none, 0, (T.get_set _ _ _ _).trans (if_pos rfl), SlR.nil, by simp, by simp [own], by omega, by omega, ((Keep.refl (Nat.le_refl c)).set (.inl (by omega))).up (by omega)⟩) ?_)))))))))))
    rintro v ⟨hh1, cc1⟩ ⟨rfl, hG⟩
    refine qA hl rfl (nK (rS (sg 2 rfl ?_)))
    obtain ⟨a, cp, q1, q2, q3, q4, q5, q6, q7⟩ := hG
    refine qM hl rfl (qB hl rfl rfl rfl (nK (rF hl rfl (by first | rfl | (simp only [dz]; omega) | (simp; done) | (simp; omega)) ?_)))
    refine rK (kN (sg 4 rfl (qL hl rfl (by first | assumption | (simp only [gs]; rfl) | (simp [gs]; try rfl)) ((p102.1 _ _).trans rfl) ?_)))
    refine qY hl rfl Tryz.underlying102 Tryz.underlying9 Tryz.underlying5 (bs := out.map UInt8.ofNat) (by rw [txt_cells q3]; exact q2) ?_
    refine qA hl rfl (qA hl rfl (nK (rR (f_2 hl rfl (.inl rfl) rfl rfl ?_))))
    exact ⟨⟨rfl, q3⟩, q7.up (by dsimp only; omega)⟩
end
end Go.Proofs.YtegjkhgaoabfcaaGreat
