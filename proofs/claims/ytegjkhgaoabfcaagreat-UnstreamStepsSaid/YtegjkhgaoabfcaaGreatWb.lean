/- Part 2 (a part of the proof of UnstreamSteps; no condition). -/
import Derived.Test.YtegjkhgaoabfcaaGreatWa
set_option linter.unusedSimpArgs false
set_option linter.unusedVariables false
namespace Go.AE
open Go.RowKit
section
variable {P : Program}
def Fr (ρ : Ren) (s : St) : Prop := ∀ b, s.ctr ≤ b → ρ b = none
def Nw (s s' : St) (b : Nat) : Prop := s.ctr ≤ b ∧ b < s'.ctr
def CallOK (P : Program) (call : CallF) : Prop := ∀ f args s v s', call f args s = some (v, s') → s.ctr ≤ s'.ctr ∧ (∃ fn, P.funcs[f]? = some fn ∧ fn.body.isNone = false ∧ (fn.name == "runtime.NumGoroutine") = false) ∧
  ∀ ρ w (args' : Array Value), R ρ s.heap.get w → Fr ρ s → LR ρ args args'.toList → Calls P f args' w fun e w' => ∃ ρ' v', e = .returned v' ∧ VR ρ' v v' ∧ Step ρ s.heap.get w ρ' s'.heap.get w' (Nw s s')
theorem zeroCells_size (z : Array Value) (n : Nat) : (Builtin.zeroCells z n).size = n * z.size := by simp [Builtin.zeroCells]
theorem Step.fresh {ρ : Ren} {g : Nat → Option Blk} {w w' : World} {nm : Nat} (hR : R ρ g w) (hnm : ρ nm = none) (gone : Nat → Bool) (blk : Blk) (cs : Array Value)
    (hG : Grow ρ w nm (some blk) (ρ.upd nm ⟨w.heap.size, 0, cs.size, blk.es⟩) w') :
    Step ρ g w (ρ.upd nm ⟨w.heap.size, 0, cs.size, blk.es⟩) (fun x => if x = nm then some blk else if gone x then none else g x) w' (· = nm) := by
  have hg : g nm = none := by
    cases e : g nm with
    | none => rfl
    | some x => obtain ⟨r, h1, _⟩ := hR.live _ _ e; rw [hnm] at h1; cases h1
  have h := Step.grow hR hg hG
  have sub : ∀ b x, (if b = nm then some blk else if gone b then none else g b) = some x → gput g nm (some blk) b = some x := by
    intro b x hb
    simp only [gput]
    by_cases e : b = nm
    · rw [if_pos e] at hb ⊢; exact hb
    · rw [if_neg e] at hb ⊢
      split at hb
      · cases hb
      · exact hb
  refine ⟨h.le, h.same, h.rel.sub sub, h.old, ?_, h.names, fun b x hb => h.dom b x (sub b x hb)⟩
  rintro B ⟨b, x, r, h1, h2, h3⟩
  exact h.foot B ⟨b, x, r, sub _ _ h1, h2, h3⟩
theorem Step.move {ρ : Ren} {g : Nat → Option Blk} {w w' : World} {nm : Nat} (hR : R ρ g w) (hnm : ρ nm = none) {b : Nat} {blk blk' : Blk} {r : RB} (hg : g b = some blk) (hr : ρ b = some r) (d : Nat)
    (hB : BR ρ w' ⟨r.B, r.δ + d, r.N, r.es⟩ blk') (hsz : w'.heap.size = w.heap.size) (hoth : ∀ c, c ≠ r.B → w'.heap[c]? = w.heap[c]?) (hos : w'.os = w.os) (htape : w'.tape = w.tape) (hout : w'.output = w.output) :
    Step ρ g w (ρ.upd nm ⟨r.B, r.δ + d, r.N, r.es⟩) (fun x => if x = nm then some blk' else if decide (x = b) then none else g x) w' (· = nm) := by
  have gone : ∀ x y, x ≠ nm → (if x = nm then some blk' else if decide (x = b) then none else g x) = some y → x ≠ b ∧ g x = some y := by
    intro x y h e
    rw [if_neg h] at e
    by_cases q : x = b
    · simp [q] at e
    · simp [q] at e; exact ⟨q, e⟩
  have far : ∀ x y r', x ≠ b → g x = some y → ρ x = some r' → r'.B ≠ r.B := fun x y r' hx hy hr' q => hx (hR.inj _ _ _ _ _ _ hy hg hr' hr q)
  refine ⟨Ren.le_upd _ hnm, ⟨hos, htape, hout, by omega⟩, ⟨?_, ?_, ?_⟩, ?_, ?_, fun x hx => Ren.upd_other _ _ hx, ?_⟩
  · intro x y h
    by_cases e : x = nm
    · subst e; rw [if_pos rfl] at h; cases h
      exact ⟨_, Ren.upd_same _ _ _, hB.mono (Ren.le_upd _ hnm) rfl⟩
    · obtain ⟨h1, h2⟩ := gone x y e h
      obtain ⟨r', k1, k2⟩ := hR.live x y h2
      exact ⟨r', by rw [Ren.upd_other _ _ e]; exact k1, k2.mono (Ren.le_upd _ hnm) (hoth _ (far x y r' h1 h2 k1))⟩
  · intro b₁ b₂ x₁ x₂ r₁ r₂ g1 g2 e1 e2 eB
    by_cases q1 : b₁ = nm
    · by_cases q2 : b₂ = nm
      · rw [q1, q2]
      · obtain ⟨h1, h2⟩ := gone _ _ q2 g2
        rw [Ren.upd_other _ _ q2] at e2
        rw [q1, Ren.upd_same] at e1; cases e1
        exact absurd eB.symm (far _ _ _ h1 h2 e2)
    · obtain ⟨h1, h2⟩ := gone _ _ q1 g1
      rw [Ren.upd_other _ _ q1] at e1
      by_cases q2 : b₂ = nm
      · rw [q2, Ren.upd_same] at e2; cases e2
        exact absurd eB (far _ _ _ h1 h2 e1)
      · obtain ⟨k1, k2⟩ := gone _ _ q2 g2
        rw [Ren.upd_other _ _ q2] at e2
        exact hR.inj _ _ _ _ _ _ h2 k2 e1 e2 eB
  · intro x r' h
    rw [hsz]
    by_cases e : x = nm
    · subst e; rw [Ren.upd_same] at h; cases h; exact (hR.lt _ _ hr : r.B < _)
    · rw [Ren.upd_other _ _ e] at h; exact hR.lt _ _ h
  · intro B _ hf
    refine hoth B ?_
    rintro rfl; exact hf ⟨b, blk, r, hg, hr, rfl⟩
  · rintro B ⟨x, y, r', h1, h2, h3⟩
    by_cases e : x = nm
    · subst e; rw [Ren.upd_same] at h2; cases h2
      exact Or.inl ⟨b, blk, r, hg, hr, h3⟩
    · obtain ⟨k1, k2⟩ := gone x y e h1
      rw [Ren.upd_other _ _ e] at h2
      exact Or.inl ⟨x, y, r', k2, h2, h3⟩
  · intro x y h
    by_cases e : x = nm
    · exact Or.inl e
    · exact Or.inr ⟨y, (gone x y e h).2⟩
theorem append_sound {ρ : Ren} {s s' : St} {w : World} {nm : Nat} (hR : R ρ s.heap.get w) (hnm : ρ nm = none) {tx ty : Option TypeId} {x y x' y' v : Value}
    (h : evAppend P nm s tx ty x y = some (v, s')) (hx : VR ρ x x') (hy : VR ρ y y') (ats : Array TypeId) (t : TypeId) (h0 : ats[0]? = tx) (h1 : ats[1]? = ty) :
    s'.ctr = s.ctr ∧ ∃ v' w' ρ', (Builtin.append_ ats t #[x', y']).run P w = .ok v' w' ∧ VR ρ' v v' ∧ Step ρ s.heap.get w ρ' s'.heap.get w' (· = nm) := by
  unfold evAppend at h
  split at h
  · rename_i e hu
    obtain ⟨tx, rfl, hu⟩ : ∃ q, tx = some q ∧ P.underlying q = some (.slice e) := by
      cases tx with
      | none => simp at hu
      | some q => exact ⟨q, rfl, by simpa using hu⟩
    split at h
    · rename_i i hi
      split at h
      · rename_i z hz
        split at h
        · rename_i m new hsrc
          obtain ⟨new', n1, n2, n3, n4, n5, xt, d, rfl, n6, n7⟩ := src_sound hR hsrc hy
          split at h
          · rename_i hp
            obtain ⟨hp, hs0, hzs⟩ := hp
            have full : ∀ w2 : World, w2.heap = w.heap → (Builtin.firstCells i.size m y').run P w2 = .ok new'.toArray w2 := by
              intro w2 h2
              have := n5 w2 h2 m (Nat.le_refl _)
              rw [← n2, n1.1, List.take_length] at this; exact this
            have nl : new'.length = m * i.size := by rw [← n1.1]; exact n2
            -- a new row
            have newRow_ : ∀ (base : Option Addr) (n C : Nat) (old old' : List Value) (gone : Nat → Bool), x' = .slice base n C → C < n + m → (n + m) * i.bytes ≤ 140737488355328 → n + m ≤ 4611686018427387904 →
                LR ρ old old' → old.length = n * i.size → (Builtin.firstCells i.size n (.slice base n C)).run P w.drew = .ok old'.toArray w.drew →
                ∃ v' w' ρ', (Builtin.append_ ats t #[x', y']).run P w = .ok v' w' ∧ VR ρ' (.slice (some ⟨nm, 0, none⟩) (n + m) 1) v' ∧
                  Step ρ s.heap.get w ρ' (fun b => if b = nm then some ⟨old ++ new, e, i.size⟩ else if gone b then none else s.heap.get b) w' (· = nm) := by
              intro base n C old old' gone ex hg hf hb ho hol hold
              subst ex
              have hrun := run_append_more (P := P) (w := w) hu hi hz n6 n7 n4 hold (full w.drew rfl) hg hf hb ats t h0 h1
              let cs := old'.toArray ++ new'.toArray ++ Builtin.zeroCells z.cells (grownCap w (n + m) C e - (n + m))
              have hcap : n + m ≤ grownCap w (n + m) C e := by simp only [grownCap, Question.cut]; omega
              have hcs : cs.size = grownCap w (n + m) C e * i.size := by
                simp only [cs, Array.size_append, List.size_toArray, zeroCells_size, hzs, ← ho.1, hol, nl]
                rw [← Nat.add_mul, ← Nat.add_mul]; congr 1; omega
              have hoL : LR ρ (old ++ new) (old' ++ new') := ho.append n1
              have hG : Grow ρ w nm (some ⟨old ++ new, e, i.size⟩) (ρ.upd nm ⟨w.heap.size, 0, cs.size, i.size⟩) (w.drew.alloc (.cells cs e)) := by
                refine Grow.new hnm ⟨old ++ new, e, i.size⟩ cs (0, 0) (by simp) (fun B hB => ?_) ?_ (Or.inl (Nat.le_refl _)) rfl rfl rfl ?_ ?_ (fun h => absurd h hs0)
                · exact Below.heap_alloc w.drew _ _ hB
                · show (w.heap.push _)[w.heap.size]? = _; simp
                · simp only [List.length_append, hol, n2, hcs]
                  rw [← Nat.add_mul]; exact Nat.mul_le_mul_right _ hcap
                · intro j hj
                  have hj' : j < (old' ++ new').length := by rw [← hoL.1]; exact hj
                  have := hoL.2 j
                  rw [getD_list]
                  have e1 : cs.toList = (old' ++ new') ++ (Builtin.zeroCells z.cells (grownCap w (n + m) C e - (n + m))).toList := by simp [cs]
                  rw [e1]
                  simp only [List.getD] at this ⊢
                  rw [List.getElem?_append_left hj']; exact this
              refine ⟨_, _, _, hrun, ?_, Step.fresh hR hnm gone ⟨old ++ new, e, i.size⟩ cs hG⟩
              refine .slice hcap (fun q => by cases q) (fun _ => ⟨_, Ren.upd_same _ _ _, rfl, rfl, ?_⟩)
              simp [hcs]
            split at h
            · -- onto nil
              cases hx
              split at h
              · rename_i hc
                split at h
                · rename_i hm
                  cases h
                  subst hm
                  refine ⟨rfl, _, w, ρ, ?_, VR.snil, Step.refl hR _⟩
                  have := run_append_room (P := P) (w := w) hu hi n6 n7 n4 (full w rfl) (base := none) (n := 0) (C := 0) (by omega) ats t h0 h1
                  exact this
                · rename_i hm
                  cases h
                  obtain ⟨v', w', ρ', q1, q2, q3⟩ := newRow_ none 0 0 [] [] (fun _ => false) rfl (by omega) (by simpa using hc.1) (by omega) LR.nil (by simp) (by simp [Builtin.firstCells])
                  refine ⟨rfl, v', w', ρ', q1, by simpa using q2, q3.ext (fun _ => rfl) (fun b => ?_)⟩
                  simp [T.get_set]
              · cases h
            · -- onto a row
              rename_i a n c
              cases hx with
              | slice q1 q2 q3 =>
                rename_i A C
                split at h
                · rename_i hc0
                  split at h
                  · rename_i hc
                    obtain ⟨hn, hc1, hc2⟩ := hc
                    have hC : C = 0 := q2 hc0
                    subst hn hC
                    split at h
                    · rename_i hm
                      cases h
                      subst hm
                      refine ⟨rfl, .slice (some A) 0 0, w, ρ, ?_, VR.slice (Nat.le_refl _) (fun _ => rfl) (fun q => absurd rfl q), Step.refl hR _⟩
                      have := run_append_room (P := P) (w := w) hu hi n6 n7 n4 (full w rfl) (base := some A) (n := 0) (C := 0) (by omega) ats t h0 h1
                      have hnil : new' = [] := by cases new' with
                        | nil => rfl
                        | cons _ _ => simp at nl
                      subst hnil
                      simpa [storeCells] using this
                    · rename_i hm
                      cases h
                      obtain ⟨v', w', ρ', r1, r2, r3⟩ := newRow_ (some A) 0 0 [] [] (fun _ => false) rfl (by omega) (by simpa using hc1) (by omega) LR.nil (by simp) (by simp [Builtin.firstCells, loadCells, loadCellsFrom])
                      refine ⟨rfl, v', w', ρ', r1, by simpa using r2, r3.ext (fun _ => rfl) (fun b => ?_)⟩
                      simp [T.get_set]
                  · cases h
                · rename_i hc0
                  split at h
                  · rename_i blk hg
                    split at h
                    · rename_i hc
                      obtain ⟨c1, c2, c3, c4, c5, c6⟩ := hc
                      cases h
                      refine ⟨rfl, ?_⟩
                      obtain ⟨r, b1, b2⟩ := hR.live _ _ hg
                      have hsp : a.spot = none := by simpa using c1
                      have hdrop : (blk.cells.drop a.off).length = n * i.size := by simp; omega
                      have gfin : ∀ b, (if b = nm then some (⟨blk.cells.drop a.off ++ new, e, i.size⟩ : Blk) else if decide (b = a.block) then none else s.heap.get b) =
                          ((s.heap.del a.block).set nm ⟨blk.cells.drop a.off ++ new, e, i.size⟩).get b := by
                        intro b; simp [T.get_set, T.get_del]
                      by_cases hroom : n + m ≤ C
                      · -- in place
                        have hrun := run_append_room (P := P) (w := w) hu hi n6 n7 n4 (full w rfl) (base := some A) (n := n) (C := C) hroom ats t h0 h1
                        simp only at hrun
                        obtain ⟨hes, cs, fz, k1, k2, k3, k4, k5⟩ := b2
                        have hoff : a.off ≤ blk.cells.length := by omega
                        by_cases hC : C = 0
                        · -- nothing at all
                          have hn : n = 0 := by omega
                          have hm : m = 0 := by omega
                          subst hn hm
                          have hnil : new' = [] := by cases new' with
                            | nil => rfl
                            | cons _ _ => simp at nl
                          have hnil2 : new = [] := List.eq_nil_of_length_eq_zero (by simpa using n2)
                          subst hnil hnil2
                          have hd0 : blk.cells.drop a.off = [] := List.eq_nil_of_length_eq_zero (by simpa using hdrop)
                          refine ⟨.slice (some A) (0 + 0) C, w, _, by rw [hrun]; simp [storeCells], VR.slice (by omega) (fun q => by cases q) (fun q => absurd hC q), Step.ext (Step.move (blk' := ⟨blk.cells.drop a.off ++ [], e, i.size⟩) hR hnm hg b1 a.off ?_ rfl (fun _ _ => rfl) rfl rfl rfl) (fun _ => rfl) gfin⟩
                          refine ⟨⟨by rw [hes.1, c2], fun h => absurd h hs0⟩, cs, fz, by rw [k1, c3], k2, k3, by simp [hd0]; omega, fun j hj => by simp [hd0] at hj⟩
                        · obtain ⟨r', s1, s2, s3, s4⟩ := q3 hC
                          rw [b1] at s1; cases s1
                          subst s2
                          rw [hes.1, c2] at s4
                          have hcap : (n + m) * i.size ≤ C * i.size := Nat.mul_le_mul_right _ hroom
                          rw [Nat.add_mul] at hcap
                          obtain ⟨w', p1, p2, p3, p4, p5, p6, p7⟩ := run_storeCells (P := P) r.B (r.δ + a.off + n * i.size) blk.elem fz new' 0 w cs k1 (by rw [nl, k2]; omega) (by rw [k2]; exact k3) (mem_oneCell n1 n3)
                          refine ⟨_, w', _, by rw [hrun, add_none, p1]; rfl, ?_, Step.ext (Step.move (blk' := ⟨blk.cells.drop a.off ++ new, e, i.size⟩) hR hnm hg b1 a.off ?_ p3 p4 p5 p6 p7) (fun _ => rfl) gfin⟩
                          · refine .slice hroom (fun q => by cases q) (fun _ => ⟨_, Ren.upd_same _ _ _, by simp, rfl, ?_⟩)
                            simp only [Nat.add_zero]; rw [hes.1, c2]; exact s4
                          · refine ⟨⟨by rw [hes.1, c2], fun h => absurd h hs0⟩, _, fz, by rw [p2, c3], by rw [setArr_size, k2], k3, ?_, ?_⟩
                            · simp only [List.length_append, hdrop, n2]; omega
                            · intro j hj
                              simp only [List.length_append, hdrop, n2] at hj
                              show VR ρ _ ((setArr cs _ new').getD (r.δ + a.off + j) undef)
                              rw [setArr_get _ _ _ _ (by rw [nl, k2]; omega)]
                              by_cases q : j < n * i.size
                              · rw [if_neg (by omega)]
                                have := k5 (a.off + j) (by omega)
                                simp only [List.getD] at this ⊢
                                rw [List.getElem?_append_left (by rw [hdrop]; exact q), List.getElem?_drop, Nat.add_assoc]
                                exact this
                              · rw [if_pos (by rw [nl]; omega)]
                                have := n1.2 (j - n * i.size)
                                simp only [List.getD] at this ⊢
                                rw [List.getElem?_append_right (by rw [hdrop]; omega), hdrop]
                                rw [show r.δ + a.off + j - (r.δ + a.off + n * i.size + 0) = j - n * i.size from by omega]; exact this
                      · -- a new row
                        obtain ⟨old', o1, o2⟩ : ∃ old', LR ρ (blk.cells.drop a.off) old' ∧ (Builtin.firstCells i.size n (.slice (some A) n C)).run P w.drew = .ok old'.toArray w.drew := by
                          by_cases hC : C = 0
                          · have hn : n = 0 := by omega
                            subst hn
                            refine ⟨[], ?_, by simp [Builtin.firstCells, loadCells, loadCellsFrom]⟩
                            rw [show blk.cells.drop a.off = [] from List.eq_nil_of_length_eq_zero (by simpa using hdrop)]; exact LR.nil
                          · obtain ⟨r', s1, s2, s3, s4⟩ := q3 hC
                            rw [b1] at s1; cases s1
                            subst s2
                            obtain ⟨ds, d1, d2, d3, d4⟩ := loadCells_sound (P := P) (w := w) b2 (off := a.off) (n := n * i.size) (by omega)
                            refine ⟨ds, ?_, ?_⟩
                            · rw [List.take_of_length_le (by omega)] at d2; exact d2
                            · have := run_loadCells_list (P := P) w.drew ⟨r.B, r.δ + a.off, none⟩ ds d4
                              rw [d3] at this
                              simpa [Builtin.firstCells] using this
                        obtain ⟨v', w', ρ', r1, r2, r3⟩ := newRow_ (some A) n C (blk.cells.drop a.off) old' (fun b => decide (b = a.block)) rfl (by omega) c5 c6 o1 hdrop o2
                        exact ⟨v', w', ρ', r1, r2, r3.ext (fun _ => rfl) gfin⟩
                    · cases h
                  · cases h
            · cases h
          · cases h
        · cases h
      · cases h
    · cases h
  · cases h
theorem copy_sound {ρ : Ren} {s s' : St} {w : World} (hR : R ρ s.heap.get w) {tx ty : Option TypeId} {x y x' y' v : Value}
    (h : evCopy P s tx ty x y = some (v, s')) (hx : VR ρ x x') (hy : VR ρ y y') (ats : Array TypeId) (t : TypeId) (h0 : ats[0]? = tx) (h1 : ats[1]? = ty) (N : Nat → Prop) :
    s'.ctr = s.ctr ∧ ∃ v' w', (Builtin.copy_ ats t #[x', y']).run P w = .ok v' w' ∧ VR ρ v v' ∧ Step ρ s.heap.get w ρ s'.heap.get w' N := by
  unfold evCopy at h
  split at h
  · rename_i e hu
    obtain ⟨tx, rfl, hu⟩ : ∃ q, tx = some q ∧ P.underlying q = some (.slice e) := by
      cases tx with
      | none => simp at hu
      | some q => exact ⟨q, rfl, by simpa using hu⟩
    split at h
    · rename_i i hi
      split at h
      · rename_i m new hsrc
        obtain ⟨new', n1, n2, n3, n4, n5, xt, d, rfl, n6, n7⟩ := src_sound hR hsrc hy
        have a1 : ∀ q : Value, (#[q, y'] : Array Value)[1]? = some y' := fun _ => rfl
        have a0 : ∀ q : Value, (#[q, y'] : Array Value)[0]? = some q := fun _ => rfl
        split at h
        · cases hx; cases h
          refine ⟨rfl, _, w, ?_, .int _ _, Step.refl hR _⟩
          have := n5 w rfl 0 (Nat.zero_le _)
          have mm : Nat.min m 0 = 0 := by simp
          simp only [Builtin.copy_, h0, a0, a1, Sem.run_bind, rund w hu, Result.andThen_ok, n4, rsize w hi, mm, this, Sem.run_pure]; rfl
        · rename_i a n c
          cases hx with
          | slice q1 q2 q3 =>
            rename_i A C
            split at h
            · rename_i blk hg
              split at h
              · rename_i hc
                obtain ⟨c1, c2, c3⟩ := hc
                cases h
                refine ⟨rfl, ?_⟩
                have hmin : Nat.min m n = min m n := rfl
                have hmn : min m n * i.size ≤ m * i.size := Nat.mul_le_mul_right _ (Nat.min_le_left _ _)
                have hnn : min m n * i.size ≤ n * i.size := Nat.mul_le_mul_right _ (Nat.min_le_right _ _)
                have hload := n5 w rfl (min m n) (Nat.min_le_left _ _)
                have hlen : (new.take (min m n * i.size)).length = min m n * i.size := by rw [List.length_take, n2]; omega
                have gfin : ∀ b, (if b = a.block then some { blk with cells := setCells blk.cells a.off (new.take (min m n * i.size)) } else s.heap.get b) =
                    (s.heap.set a.block { blk with cells := setCells blk.cells a.off (new.take (min m n * i.size)) }).get b := by intro b; simp [T.get_set]
                by_cases hC : C = 0
                · have hn : n = 0 := by omega
                  subst hn
                  have e1 : min m 0 = 0 := by omega
                  rw [e1] at hload
                  simp only [Nat.zero_mul, List.take_zero] at hload
                  refine ⟨_, w, ?_, .int _ _, Step.ext (Step.refl hR _) (fun _ => rfl) (fun b => ?_)⟩
                  · simp only [Builtin.copy_, h0, a0, a1, Sem.run_bind, rund w hu, Result.andThen_ok, n4, rsize w hi, hmin, e1, hload, Sem.run_pure, storeCells]; rfl
                  · rw [← gfin]
                    by_cases q : b = a.block
                    · subst q; rw [if_pos rfl, hg, e1]; simp [setCells]
                    · rw [if_neg q]
                · obtain ⟨r, s1, s2, s3, s4⟩ := q3 hC
                  subst s2
                  obtain ⟨w', p1, p2⟩ := store_sound (P := P) hR hg s1 (off := a.off) (vs := new.take (min m n * i.size)) (vs' := new'.take (min m n * i.size)) (by rw [hlen]; omega) (n1.take _)
                    (List.all_eq_true.2 fun v hv => List.all_eq_true.1 n3 v (List.mem_of_mem_take hv)) N
                  refine ⟨_, w', ?_, .int _ _, p2.ext (fun _ => rfl) gfin⟩
                  simp only [Builtin.copy_, h0, a0, a1, Sem.run_bind, rund w hu, Result.andThen_ok, n4, rsize w hi, hmin, hload, Sem.run_pure, List.toList_toArray, p1]; rfl
              · cases h
            · cases h
        · cases h
      · cases h
    · cases h
  · cases h
theorem storeAt_sound {ρ : Ren} {s : St} {w : World} (hR : R ρ s.heap.get w) {t : TypeId} {i : TypeInfo} (hi : P.info? t = some i) {a A : Addr} {v v' : Value} {blk : Blk} (ha : AR ρ a A) (hv : VR ρ v v') (hg : s.heap.get a.block = some blk)
    (h1 : v.cells.size = i.size) (h2 : a.off + i.size ≤ blk.cells.length) (h3 : v.cells.toList.all AE.oneCell = true) (N : Nat → Prop) :
    ∃ w', (Instr.storeAt t (.pointer (some A)) v').run P w = .ok () w' ∧ Step ρ s.heap.get w ρ (s.heap.set a.block { blk with cells := setCells blk.cells a.off v.cells.toList }).get w' N := by
  obtain ⟨r, r1, r2, r3⟩ := ha
  subst r2
  have hc := hv.cells
  have hsz : v'.cells.size = i.size := by have := hc.1; simp at this; omega
  obtain ⟨w', p1, p2⟩ := store_sound (P := P) hR hg r1 (off := a.off) (vs := v.cells.toList) (vs' := v'.cells.toList) (by simpa [h1] using h2) hc h3 N
  refine ⟨w', ?_, p2.ext (fun _ => rfl) (fun b => by simp [T.get_set])⟩
  simp only [Instr.storeAt, Instr.sureAddr, storeVar, Sem.run_bind, Sem.run_pure, Result.andThen_ok, rsize w hi, hsz, ne_eq, not_true_eq_false, if_false, p1]
theorem wild_sound {call : CallF} (hcall : CallOK P call) {ρ : Ren} {env : Env} {s s' : St} {nm : Nat} {v : Value} {a : Act} {w : World} {o : Oper}
    (h : evWild P call env s nm o.op = some (v, s')) (hR : R ρ s.heap.get w) (hF : Fr ρ s) (hE : ER ρ env a.tmps) (hnm : ρ nm = none) {K : Act → World → Prop} {Q : Exit → Act → World → Prop}
    (k : ∀ ρ' v' w', VR ρ' v v' → Step ρ s.heap.get w ρ' s'.heap.get w' (fun b => b = nm ∨ Nw s s' b) → K (a.put o.dst v') w') : s.ctr ≤ s'.ctr ∧ o.wp P a w K Q := by
  obtain ⟨dst, op, type, pos, after, guard⟩ := o
  simp only at h
  cases op <;> simp only [evWild] at h <;> (first | cases h | skip)
  case store t x y =>
    split at h
    · rename_i b vv hx hy
      split at h
      · rename_i blk i hg hi
        split at h
        · rename_i hc
          obtain ⟨c1, c2, c3, c4⟩ := hc
          cases h
          have kx := evalO_sound hE hx
          have ky := evalO_sound hE hy
          refine ⟨Nat.le_refl _, ?_⟩
          unfold Oper.wp
          simp only [execOp]
          generalize a.eval x = x' at kx ⊢
          generalize a.eval y = y' at ky ⊢
          cases kx with
          | ptr ha =>
            obtain ⟨w', p1, p2⟩ := storeAt_sound (P := P) hR hi ha ky hg c2 c3 c4 (fun q => q = nm ∨ s.ctr ≤ q ∧ q < s.ctr)
            simp only [Sem.run_bind, p1, Result.andThen_ok, Sem.run_pure, Oper.upon]
            exact k ρ undef w' .unit p2
        · cases h
      · cases h
    · cases h
  case call c =>
    split at h
    · rename_i args hargs
      have kargs := evalOs_sound hE _ _ hargs
      split at h
      · -- a function
        rename_i f hcal
        split at h
        · rename_i fid first captured hf
          have kf := evalO_sound hE hf
          obtain ⟨hle, ⟨fn, f1, f2, f3⟩, hcl⟩ := hcall _ _ _ _ _ h
          refine ⟨hle, ?_⟩
          unfold Oper.wp
          simp only [execOp, resolve, hcal, Sem.run_bind, Sem.run_pure, Result.andThen_ok]
          generalize a.eval f = f' at kf ⊢
          cases kf with
          | func _ q1 q2 q3 q4 =>
            rename_i fi ca
            have hargs' : LR ρ (first.toList ++ args ++ captured.toList) (fi ++ c.args.map a.eval ++ ca).toList := by
              simp only [Array.toList_append, Array.toList_map]
              exact ((LR.of_agg q1 q3).append kargs).append (LR.of_agg q2 q4)
            simp only [Deferred.ofValue, Sem.run_pure, Result.andThen_ok, invoke, callFunc, Sem.run_bind, run_program, f1, f2, f3, Bool.false_eq_true, if_false, Sem.run_ite, Oper.upon]
            refine (hcl ρ w _ hR hF hargs').mono ?_
            rintro e w' ⟨ρ', v', rfl, p1, p2⟩
            exact k ρ' v' w' p1 (p2.imp fun b hb => Or.inr hb)
        · cases h
      · rename_i hcal
        split at h
        · rename_i x y
          obtain ⟨x', ys, e1, kx, k2⟩ := kargs.cons_inv
          obtain ⟨y', zs, rfl, ky, k3⟩ := k2.cons_inv
          have := k3.nil_inv; subst this
          have eargs : c.args.map a.eval = #[x', y'] := by apply Array.ext'; simpa using e1
          obtain ⟨hc, v', w', ρ', p1, p2, p3⟩ := append_sound (P := P) hR hnm h kx ky c.argTypes type rfl rfl
          refine ⟨by omega, ?_⟩
          unfold Oper.wp
          simp only [execOp, resolve, hcal, Sem.run_bind, Sem.run_pure, Result.andThen_ok, invoke, builtin, eargs, p1, Oper.upon]
          exact k ρ' v' w' p2 (p3.imp fun b hb => Or.inl hb)
        · cases h
      · rename_i hcal
        split at h
        · rename_i x y
          obtain ⟨x', ys, e1, kx, k2⟩ := kargs.cons_inv
          obtain ⟨y', zs, rfl, ky, k3⟩ := k2.cons_inv
          have := k3.nil_inv; subst this
          have eargs : c.args.map a.eval = #[x', y'] := by apply Array.ext'; simpa using e1
          obtain ⟨hc, v', w', p1, p2, p3⟩ := copy_sound (P := P) hR h kx ky c.argTypes type rfl rfl (fun b => b = nm ∨ Nw s s' b)
          refine ⟨by omega, ?_⟩
          unfold Oper.wp
          simp only [execOp, resolve, hcal, Sem.run_bind, Sem.run_pure, Result.andThen_ok, invoke, builtin, eargs, p1, Oper.upon]
          exact k ρ v' w' p2 p3
        · cases h
      · cases h
    · cases h
end
open Go.RowKit
section
variable {P : Program}
theorem VR.bool_left {ρ : Ren} {v : Value} {b : Bool} (h : VR ρ v (.bool b)) : v = .bool b := by cases h; rfl
theorem VR.bool_right {ρ : Ren} {v : Value} {b : Bool} (h : VR ρ (.bool b) v) : v = .bool b := by cases h; rfl
theorem yielded_eq {ρ : Ren} {env : Env} {tmps : Array Value} (ops : Array Oper) (h : ER ρ env tmps) (j : Nat) : yieldedA ops env j = yielded ops tmps j := by
  unfold yieldedA yielded
  cases hd : (ops[j]?).bind (·.dst) with
  | none => rfl
  | some d =>
    simp only [Option.bind_some]
    cases hx : env[d]? with
    | none =>
      have : tmps[d]? = none := by
        have h1 : env.length ≤ d := by simpa using hx
        have h2 := h.1
        simp at h2 ⊢; omega
      rw [this]
    | some x =>
      obtain ⟨y, h1, h2⟩ := LR.get? h hx
      have : tmps[d]? = some y := by simpa using h1
      rw [this]
      cases y with
      | bool b => rw [h2.bool_left]
      | _ => cases h2 <;> rfl
theorem wanted_eq {ρ : Ren} {env : Env} {tmps : Array Value} (ops : Array Oper) (h : ER ρ env tmps) (o : Oper) : Region.wanted o (yieldedA ops env) = Region.wanted o (yielded ops tmps) := by
  have : yieldedA ops env = yielded ops tmps := funext (yielded_eq ops h)
  rw [this]
theorem Fr.step {ρ ρ' : Ren} {s s' : St} {g g' : Nat → Option Blk} {w w' : World} {N : Nat → Prop} (h : Fr ρ s) (hle : s.ctr ≤ s'.ctr) (k : Step ρ g w ρ' g' w' N) (hN : ∀ b, N b → b < s'.ctr) : Fr ρ' s' := by
  intro b hb
  rw [k.names b (fun q => by have := hN b q; omega)]
  exact h b (by omega)
theorem Act.put_defers' (a : Act) (d : Option Tmp) (v : Value) : (a.put d v).defers = a.defers := by cases d <;> rfl
theorem evAppend_ctr {nm : Nat} {s s' : St} {tx ty : Option TypeId} {x y v : Value} (h : evAppend P nm s tx ty x y = some (v, s')) : s'.ctr = s.ctr := by
  unfold evAppend at h
  repeat' split at h
  all_goals first | (cases h; done) | (cases h; rfl)
theorem evCopy_ctr {s s' : St} {tx ty : Option TypeId} {x y v : Value} (h : evCopy P s tx ty x y = some (v, s')) : s'.ctr = s.ctr := by
  unfold evCopy at h
  repeat' split at h
  all_goals first | (cases h; done) | (cases h; rfl)
theorem evWild_ctr {call : CallF} (hm : ∀ f args s v s', call f args s = some (v, s') → s.ctr ≤ s'.ctr) {env : Env} {s s' : St} {nm : Nat} {op : Op} {v : Value} (h : evWild P call env s nm op = some (v, s')) : s.ctr ≤ s'.ctr := by
  unfold evWild at h
  repeat' split at h
  all_goals first
    | (cases h; done)
    | exact hm _ _ _ _ _ h
    | exact Nat.le_of_eq (evAppend_ctr h).symm
    | exact Nat.le_of_eq (evCopy_ctr h).symm
    | (cases h; exact Nat.le_refl _)
theorem evStep_ctr {call : CallF} (hm : ∀ f args s v s', call f args s = some (v, s') → s.ctr ≤ s'.ctr) {ops : Array Oper} {c0 i : Nat} {o : Oper} {r r' : RS} (h : evStep P call ops c0 i o r = some r') : r.st.ctr ≤ r'.st.ctr := by
  unfold evStep at h
  split at h
  · split at h
    · split at h
      · rename_i hev; cases h; exact evWild_ctr hm hev
      · cases h
    · split at h
      · cases h; exact Nat.le_refl _
      · cases h; exact Nat.le_refl _
      · cases h
  · cases h; exact Nat.le_refl _
theorem evOps_ctr {call : CallF} (hm : ∀ f args s v s', call f args s = some (v, s') → s.ctr ≤ s'.ctr) {ops : Array Oper} {c0 : Nat} : ∀ (rest : List Oper) (i : Nat) (r r' : RS), evOps P call ops c0 rest i r = some r' → r.st.ctr ≤ r'.st.ctr
  | [], i, r, r', h => by simp only [evOps, Option.some.injEq] at h; subst h; exact Nat.le_refl _
  | o :: rest, i, r, r', h => by
    simp only [evOps] at h
    split at h
    · rename_i r1 h1; exact Nat.le_trans (evStep_ctr hm h1) (evOps_ctr hm rest (i + 1) r1 r' h)
    · cases h
theorem seq_sound {call : CallF} (hcall : CallOK P call) {ops : Array Oper} {Q : Exit → Act → World → Prop} {c0 : Nat} : ∀ (rest : List Oper) (i : Nat) (r r' : RS), ops.toList.drop i = rest → evOps P call ops c0 rest i r = some r' →
    ∀ (ρ : Ren) (a : Act) (w : World), R ρ r.st.heap.get w → ER ρ r.env a.tmps → Fr ρ r.st → (∀ j, i ≤ j → j < ops.size → ρ (c0 + j) = none) → c0 + ops.size ≤ r.st.ctr → a.defers = [] →
    r.st.ctr ≤ r'.st.ctr ∧ ((∀ ρ' a' w', Step ρ r.st.heap.get w ρ' r'.st.heap.get w' (fun b => (c0 ≤ b ∧ b < c0 + ops.size) ∨ Nw r.st r'.st b) → ER ρ' r'.env a'.tmps → a'.defers = [] → Q .normal a' w') →
      wpOps P ops Q (List.range' i rest.length) a w)
  | [], i, r, r', hd, h, ρ, a, w, hR, hE, hF, hfree, hc, ha => by
    simp only [evOps, Option.some.injEq] at h; subst h
    exact ⟨Nat.le_refl _, fun k => k ρ a w (Step.refl hR _) hE ha⟩
  | o :: rest, i, r, r', hd, h, ρ, a, w, hR, hE, hF, hfree, hc, ha => by
    simp only [evOps] at h
    have hi : i < ops.size := by
      rcases Nat.lt_or_ge i ops.size with q | q
      · exact q
      · rw [List.drop_of_length_le (by simpa using q)] at hd; cases hd
    have ho : ops[i]? = some o := by
      have : (ops.toList.drop i)[0]? = some o := by rw [hd]; rfl
      simpa using this
    have hd' : ops.toList.drop (i + 1) = rest := by
      rw [← List.drop_drop, hd]; rfl
    split at h
    · rename_i r1 h1
      -- one operation, then the rest
      have main : r.st.ctr ≤ r1.st.ctr ∧ ∀ K : Act → World → Prop,
          (∀ ρ' a' w', Step ρ r.st.heap.get w ρ' r1.st.heap.get w' (fun b => b = c0 + i ∨ Nw r.st r1.st b) → ER ρ' r1.env a'.tmps → a'.defers = [] → K a' w') → wpOp P ops Q i K a w := by
        unfold evStep at h1
        rw [wanted_eq ops hE] at h1
        unfold wpOp
        simp only [ho]
        split at h1
        · rename_i hw
          simp only [hw, if_true]
          split at h1
          · rename_i hwild
            split at h1
            · rename_i v s1 hev
              cases h1
              have hs := wild_sound (P := P) hcall (o := o) hev hR hF hE (hfree i (Nat.le_refl _) hi) (K := fun _ _ => True) (Q := Q) (fun _ _ _ _ _ => trivial)
              refine ⟨hs.1, fun K k => Or.inl ?_⟩
              exact (wild_sound (P := P) hcall (o := o) hev hR hF hE (hfree i (Nat.le_refl _) hi) (K := K) (Q := Q) (fun ρ' v' w' hv st => k ρ' _ w' st (ER.put (LR.mono st.le hE) o.dst hv) (by rw [Act.put_defers']; exact ha))).2
            · cases h1
          · split at h1
            · rename_i v hev
              cases h1
              refine ⟨Nat.le_refl _, fun K k => Or.inl ?_⟩
              obtain ⟨v', w', ρ', p1, p2, p3⟩ := local_sound (P := P) (o := o) (w := w) hev hR hE (hfree i (Nat.le_refl _) hi)
              unfold Oper.wp
              rw [p1]
              have st := Step.grow hR (by cases e : r.st.heap.get (c0 + i) with
                | none => rfl
                | some x => obtain ⟨q, q1, _⟩ := hR.live _ _ e; rw [hfree i (Nat.le_refl _) hi] at q1; cases q1) p3
              exact k ρ' _ w' (st.imp fun b hb => Or.inl hb) (ER.put (LR.mono st.le hE) o.dst p2) (by rw [Act.put_defers']; exact ha)
            · rename_i v blk hev
              cases h1
              refine ⟨Nat.le_refl _, fun K k => Or.inl ?_⟩
              obtain ⟨v', w', ρ', p1, p2, p3⟩ := local_sound (P := P) (o := o) (w := w) hev hR hE (hfree i (Nat.le_refl _) hi)
              unfold Oper.wp
              rw [p1]
              have st := Step.grow hR (by cases e : r.st.heap.get (c0 + i) with
                | none => rfl
                | some x => obtain ⟨q, q1, _⟩ := hR.live _ _ e; rw [hfree i (Nat.le_refl _) hi] at q1; cases q1) p3
              refine k ρ' _ w' ((st.imp fun b hb => Or.inl hb).ext (fun _ => rfl) (fun b => ?_)) (ER.put (LR.mono st.le hE) o.dst p2) (by rw [Act.put_defers']; exact ha)
              simp [gput, T.get_set]
            · cases h1
        · rename_i hw
          cases h1
          have hw' : Region.wanted o (yielded ops a.tmps) = false := by simpa using hw
          simp only [hw', Bool.false_eq_true, if_false]
          exact ⟨Nat.le_refl _, fun K k => k ρ _ w (Step.refl hR _) (ER.put hE o.dst .unit) (by rw [Act.put_defers']; exact ha)⟩
      obtain ⟨m1, m2⟩ := main
      -- what follows
      have follow : ∀ ρ' a' w', Step ρ r.st.heap.get w ρ' r1.st.heap.get w' (fun b => b = c0 + i ∨ Nw r.st r1.st b) → ER ρ' r1.env a'.tmps → a'.defers = [] →
          r1.st.ctr ≤ r'.st.ctr ∧ ((∀ ρ'' a'' w'', Step ρ' r1.st.heap.get w' ρ'' r'.st.heap.get w'' (fun b => (c0 ≤ b ∧ b < c0 + ops.size) ∨ Nw r1.st r'.st b) → ER ρ'' r'.env a''.tmps → a''.defers = [] → Q .normal a'' w'') →
            wpOps P ops Q (List.range' (i + 1) rest.length) a' w') := by
        intro ρ' a' w' st e1 e2
        refine seq_sound hcall rest (i + 1) r1 r' hd' h ρ' a' w' st.rel e1 (hF.step m1 st ?_) ?_ (by omega) e2
        · rintro b (q | q)
          · omega
          · exact q.2
        · intro j hj hjn
          rw [st.names]
          · exact hfree j (by omega) hjn
          · rintro (q | q)
            · omega
            · have := q.1; omega
      have hle : r1.st.ctr ≤ r'.st.ctr := by
        exact evOps_ctr (fun f args s v s' hh => (hcall f args s v s' hh).1) rest (i + 1) r1 r' h
      refine ⟨Nat.le_trans m1 hle, fun k => ?_⟩
      rw [List.length_cons, List.range'_succ, wpOps_cons]
      refine m2 _ fun ρ' a' w' st e1 e2 => ?_
      refine (follow ρ' a' w' st e1 e2).2 fun ρ'' a'' w'' st2 f1 f2 => ?_
      refine k ρ'' a'' w'' (st.trans st2 ?_ ?_) f1 f2
      · rintro b (q | q)
        · exact Or.inl (by omega)
        · exact Or.inr ⟨q.1, by have := q.2; omega⟩
      · rintro b (q | q)
        · exact Or.inl q
        · exact Or.inr ⟨by have := q.1; omega, q.2⟩
    · cases h
def RegionOK (P : Program) (call : CallF) : Prop := ∀ (id : Nat) (ops : Array Oper) (draw : Bool) (env env' : Env) (s s' : St), evRegion P call ops draw env s = some (env', s') → s.ctr ≤ s'.ctr ∧
  ∀ (ρ : Ren) (a : Act) (w : World), R ρ s.heap.get w → ER ρ env a.tmps → Fr ρ s → a.defers = [] →
    (Code.region id ops draw).wp P (fun e a' w' => e = .normal ∧ ∃ ρ', Step ρ s.heap.get w ρ' s'.heap.get w' (Nw s s') ∧ ER ρ' env' a'.tmps ∧ a'.defers = []) a w
theorem region_plain {call : CallF} (hcall : CallOK P call) (id : Nat) (ops : Array Oper) (env env' : Env) (s s' : St) (h : evRegion P call ops false env s = some (env', s')) : s.ctr ≤ s'.ctr ∧
  ∀ (ρ : Ren) (a : Act) (w : World), R ρ s.heap.get w → ER ρ env a.tmps → Fr ρ s → a.defers = [] →
    (Code.region id ops false).wp P (fun e a' w' => e = .normal ∧ ∃ ρ', Step ρ s.heap.get w ρ' s'.heap.get w' (Nw s s') ∧ ER ρ' env' a'.tmps ∧ a'.defers = []) a w := by
  unfold evRegion at h
  split at h
  · rename_i r hr
    simp only [Bool.false_eq_true, if_false, Option.some.injEq, Prod.mk.injEq] at h
    obtain ⟨rfl, rfl⟩ := h
    have hc := evOps_ctr (fun f args s v s' hh => (hcall f args s v s' hh).1) _ _ _ _ hr
    simp only at hc
    refine ⟨by omega, fun ρ a w hR hE hF ha => ?_⟩
    refine wp_region ?_
    have h1 := (seq_sound (P := P) hcall (Q := fun e a' w' => e = .normal ∧ ∃ ρ', Step ρ s.heap.get w ρ' r.st.heap.get w' (Nw s r.st) ∧ ER ρ' r.env a'.tmps ∧ a'.defers = []) ops.toList 0 _ r rfl hr ρ a w hR hE (fun b hb => hF b (by simp only at hb; omega)) (fun j _ _ => hF _ (by omega)) (Nat.le_refl _) ha).2
    rw [List.range_eq_range']
    rw [Array.length_toList] at h1
    refine h1 fun ρ' a' w' st e1 e2 => ⟨rfl, ρ', st.imp ?_, e1, e2⟩
    rintro b (q | q)
    · exact ⟨q.1, by omega⟩
    · exact ⟨by have := q.1; simp only at this; omega, q.2⟩
  · cases h
def AExit.toExit : AExit → Exit
  | .normal => .normal
  | .exit id => .exit id
  | .ret => .ret
def Post (ρ : Ren) (s : St) (w : World) (x : AExit) (env' : Env) (s' : St) (e : Exit) (a' : Act) (w' : World) : Prop :=
  e = x.toExit ∧ ∃ ρ', Step ρ s.heap.get w ρ' s'.heap.get w' (Nw s s') ∧ ER ρ' env' a'.tmps ∧ a'.defers = []
theorem Nw.trans {s1 s2 s3 : St} (h12 : s1.ctr ≤ s2.ctr) (h23 : s2.ctr ≤ s3.ctr) : (∀ b, Nw s1 s2 b → Nw s1 s3 b) ∧ (∀ b, Nw s2 s3 b → Nw s1 s3 b) :=
  ⟨fun b h => ⟨h.1, by have := h.2; omega⟩, fun b h => ⟨by have := h.1; omega, h.2⟩⟩
theorem code_sound {call : CallF} {n : Nat} (hreg : RegionOK P call) : ∀ (c : Code) (env env' : Env) (s s' : St) (x : AExit), evCode P call n c env s = some (x, env', s') → s.ctr ≤ s'.ctr ∧
    ∀ (ρ : Ren) (a : Act) (w : World), R ρ s.heap.get w → ER ρ env a.tmps → Fr ρ s → a.defers = [] → c.wp P (Post ρ s w x env' s') a w := by
  intro c
  induction c with
  | skip => intro env env' s s' x h; simp only [evCode, Option.some.injEq, Prod.mk.injEq] at h; obtain ⟨rfl, rfl, rfl⟩ := h; exact ⟨Nat.le_refl _, fun ρ a w hR hE hF ha => wp_skip ⟨rfl, ρ, Step.refl hR _, hE, ha⟩⟩
  | label l => intro env env' s s' x h; simp only [evCode, Option.some.injEq, Prod.mk.injEq] at h; obtain ⟨rfl, rfl, rfl⟩ := h; exact ⟨Nat.le_refl _, fun ρ a w hR hE hF ha => wp_label ⟨rfl, ρ, Step.refl hR _, hE, ha⟩⟩
  | exit id => intro env env' s s' x h; simp only [evCode, Option.some.injEq, Prod.mk.injEq] at h; obtain ⟨rfl, rfl, rfl⟩ := h; exact ⟨Nat.le_refl _, fun ρ a w hR hE hF ha => wp_exit ⟨rfl, ρ, Step.refl hR _, hE, ha⟩⟩
  | ret => intro env env' s s' x h; simp only [evCode, Option.some.injEq, Prod.mk.injEq] at h; obtain ⟨rfl, rfl, rfl⟩ := h; exact ⟨Nat.le_refl _, fun ρ a w hR hE hF ha => wp_ret ⟨rfl, ρ, Step.refl hR _, hE, ha⟩⟩
  | rangeFunc f ps az b _ _ => intro env env' s s' x h; simp [evCode] at h
  | scope b _ => intro env env' s s' x h; simp [evCode] at h
  | goto l => intro env env' s s' x h; simp [evCode] at h
  | refuse y => intro env env' s s' x h; simp [evCode] at h
  | region id ops draw =>
    intro env env' s s' x h
    simp only [evCode] at h
    split at h
    · rename_i e1 s1 hr
      simp only [Option.some.injEq, Prod.mk.injEq] at h; obtain ⟨rfl, rfl, rfl⟩ := h
      obtain ⟨h1, h2⟩ := hreg id ops draw env _ s _ hr
      exact ⟨h1, fun ρ a w hR hE hF ha => h2 ρ a w hR hE hF ha⟩
    · cases h
  | seq p q ihp ihq =>
    intro env env' s s' x h
    simp only [evCode] at h
    split at h
    · rename_i e1 s1 hp
      obtain ⟨h1, h2⟩ := ihp _ _ _ _ _ hp
      obtain ⟨k1, k2⟩ := ihq _ _ _ _ _ h
      refine ⟨Nat.le_trans h1 k1, fun ρ a w hR hE hF ha => wp_seq (wp_mono (h2 ρ a w hR hE hF ha) ?_)⟩
      rintro e a1 w1 ⟨rfl, ρ1, st, f1, f2⟩
      refine wp_mono (k2 ρ1 a1 w1 st.rel f1 (hF.step h1 st fun b hb => hb.2) f2) ?_
      rintro e a2 w2 ⟨rfl, ρ2, st2, g1, g2⟩
      exact ⟨rfl, ρ2, st.trans st2 (Nw.trans h1 k1).1 (Nw.trans h1 k1).2, g1, g2⟩
    · rename_i r hn
      obtain ⟨h1, h2⟩ := ihp _ _ _ _ _ h
      refine ⟨h1, fun ρ a w hR hE hF ha => wp_seq (wp_mono (h2 ρ a w hR hE hF ha) ?_)⟩
      rintro e a1 w1 ⟨rfl, k⟩
      cases x with
      | normal => exact absurd h (hn _ _)
      | exit id => exact ⟨rfl, k⟩
      | ret => exact ⟨rfl, k⟩
  | cond c p q ihp ihq =>
    intro env env' s s' x h
    simp only [evCode] at h
    split at h
    · rename_i t hc
      cases t with
      | true =>
        simp only [if_true] at h
        obtain ⟨h1, h2⟩ := ihp _ _ _ _ _ h
        exact ⟨h1, fun ρ a w hR hE hF ha => wp_cond_true (evalO_sound hE hc).bool_right (h2 ρ a w hR hE hF ha)⟩
      | false =>
        simp only [Bool.false_eq_true, if_false] at h
        obtain ⟨h1, h2⟩ := ihq _ _ _ _ _ h
        exact ⟨h1, fun ρ a w hR hE hF ha => wp_cond_false (evalO_sound hE hc).bool_right (h2 ρ a w hR hE hF ha)⟩
    · cases h
  | block id p ih =>
    intro env env' s s' x h
    simp only [evCode] at h
    split at h
    · rename_i j e1 s1 hp
      obtain ⟨h1, h2⟩ := ih _ _ _ _ _ hp
      split at h
      · rename_i hj
        simp only [Option.some.injEq, Prod.mk.injEq] at h; obtain ⟨rfl, rfl, rfl⟩ := h
        refine ⟨h1, fun ρ a w hR hE hF ha => wp_block (wp_mono (h2 ρ a w hR hE hF ha) ?_)⟩
        rintro e a1 w1 ⟨rfl, k⟩
        simp only [AExit.toExit, Exit.inBlock, hj, if_true]; exact ⟨rfl, k⟩
      · rename_i hj
        simp only [Option.some.injEq, Prod.mk.injEq] at h; obtain ⟨rfl, rfl, rfl⟩ := h
        refine ⟨h1, fun ρ a w hR hE hF ha => wp_block (wp_mono (h2 ρ a w hR hE hF ha) ?_)⟩
        rintro e a1 w1 ⟨rfl, k⟩
        simp only [AExit.toExit, Exit.inBlock, hj, if_false]; exact ⟨rfl, k⟩
    · rename_i r hn
      obtain ⟨h1, h2⟩ := ih _ _ _ _ _ h
      refine ⟨h1, fun ρ a w hR hE hF ha => wp_block (wp_mono (h2 ρ a w hR hE hF ha) ?_)⟩
      rintro e a1 w1 ⟨rfl, k⟩
      cases x with
      | normal => exact ⟨rfl, k⟩
      | exit id => exact absurd h (hn _ _ _)
      | ret => exact ⟨rfl, k⟩
  | loop p ih =>
    intro env env' s s' x h
    simp only [evCode] at h
    have key : ∀ (m : Nat) (env env' : Env) (s s' : St) (x : AExit), loopN (evCode P call n p) m env s = some (x, env', s') → s.ctr ≤ s'.ctr ∧
        ∀ (ρ : Ren) (a : Act) (w : World), R ρ s.heap.get w → ER ρ env a.tmps → Fr ρ s → a.defers = [] → Code.rounds P p (Post ρ s w x env' s') m a w := by
      intro m
      induction m with
      | zero => intro env env' s s' x h; simp [loopN] at h
      | succ m ihm =>
        intro env env' s s' x h
        simp only [loopN] at h
        split at h
        · rename_i e1 s1 hp
          obtain ⟨h1, h2⟩ := ih _ _ _ _ _ hp
          obtain ⟨k1, k2⟩ := ihm _ _ _ _ _ h
          refine ⟨Nat.le_trans h1 k1, fun ρ a w hR hE hF ha => ?_⟩
          rw [rounds_succ]
          refine wp_mono (h2 ρ a w hR hE hF ha) ?_
          rintro e a1 w1 ⟨rfl, ρ1, st, f1, f2⟩
          have mono : ∀ (m : Nat) (Q Q' : Exit → Act → World → Prop) (a : Act) (w : World), (∀ e a w, Q e a w → Q' e a w) → Code.rounds P p Q m a w → Code.rounds P p Q' m a w := by
            intro m
            induction m with
            | zero => intro Q Q' a w _ h; exact h
            | succ m ihm' =>
              intro Q Q' a w hq h
              rw [rounds_succ] at h ⊢
              refine wp_mono h ?_
              intro e a w h
              cases e with
              | normal => exact ihm' Q Q' a w hq h
              | exit id => exact hq _ _ _ h
              | goto l => exact hq _ _ _ h
              | ret => exact hq _ _ _ h
              | panic c => exact hq _ _ _ h
              | outgrown => exact hq _ _ _ h
          refine mono m _ _ a1 w1 ?_ (k2 ρ1 a1 w1 st.rel f1 (hF.step h1 st fun b hb => hb.2) f2)
          rintro e a2 w2 ⟨rfl, ρ2, st2, g1, g2⟩
          exact ⟨rfl, ρ2, st.trans st2 (Nw.trans h1 k1).1 (Nw.trans h1 k1).2, g1, g2⟩
        · rename_i r hn
          obtain ⟨h1, h2⟩ := ih _ _ _ _ _ h
          refine ⟨h1, fun ρ a w hR hE hF ha => ?_⟩
          rw [rounds_succ]
          refine wp_mono (h2 ρ a w hR hE hF ha) ?_
          rintro e a1 w1 ⟨rfl, k⟩
          cases x with
          | normal => exact absurd h (hn _ _)
          | exit id => exact ⟨rfl, k⟩
          | ret => exact ⟨rfl, k⟩
    obtain ⟨h1, h2⟩ := key n env env' s s' x h
    exact ⟨h1, fun ρ a w hR hE hF ha => wp_loop_rounds n (h2 ρ a w hR hE hF ha)⟩
theorem result_sound {ρ : Ren} {env : Env} {s : St} {a : Act} {w : World} (hR : R ρ s.heap.get w) (hE : ER ρ env a.tmps) : ∀ (rs : List ResultVar) (vs : List Value), rs.mapM (evResult P env s) = some vs →
    ∃ vs', (rs.mapM (fun | .tmp t => pure (a.tmps.getD t undef) | .cell x t => do loadVar t (← asAddr (a.tmps.getD x undef)) : ResultVar → Sem Value)).run P w = .ok vs' w ∧ LR ρ vs vs'
  | [], vs, h => by simp at h; subst h; exact ⟨[], by simp, LR.nil⟩
  | r :: rs, vs, h => by
    simp only [List.mapM_cons, Option.pure_def, Option.bind_eq_bind] at h
    cases h1 : evResult P env s r with
    | none => simp [h1] at h
    | some v =>
      cases h2 : rs.mapM (evResult P env s) with
      | none => simp [h1, h2] at h
      | some rest =>
        simp [h1, h2] at h; subst h
        obtain ⟨vs', q1, q2⟩ := result_sound hR hE rs rest h2
        cases r with
        | tmp t =>
          simp only [evResult, Option.some.injEq] at h1; subst h1
          refine ⟨a.tmps.getD t undef :: vs', ?_, LR.cons (by rw [getD_list]; exact hE.2 t) q2⟩
          rw [List.mapM_cons]
          simp only [Sem.run_bind, Sem.run_pure, Result.andThen_ok, q1]
        | cell x t =>
          simp only [evResult] at h1
          split at h1
          · rename_i ad hx
            have k : VR ρ (env.getD x undef) (a.tmps.getD x undef) := by rw [getD_list]; exact hE.2 x
            rw [hx] at k
            split at h1
            · rename_i blk hg
              split at h1
              · generalize hy : a.tmps.getD x undef = y at k
                cases k with
                | ptr ha =>
                  obtain ⟨r, r1, r2, r3⟩ := ha
                  obtain ⟨r', b1, b2⟩ := hR.live _ _ hg
                  rw [r1] at b1; cases b1
                  obtain ⟨v', v1, v2⟩ := loadVar_sound (P := P) b2 h1
                  subst r2
                  refine ⟨v' :: vs', ?_, LR.cons v2 q2⟩
                  have this : (do loadVar t (← asAddr (a.tmps.getD x undef)) : Sem Value).run P w = .ok v' w := by
                    rw [hy]; simp only [asAddr, Sem.run_bind, Sem.run_pure, Result.andThen_ok, v1]
                  rw [List.mapM_cons, Sem.run_bind, this, Result.andThen_ok, Sem.run_bind, q1]
                  rfl
              · cases h1
            · cases h1
          · cases h1
theorem single_sound {ρ : Ren} {vs vs' : List Value} (h : LR ρ vs vs') : VR ρ (single vs) (if h : vs'.toArray.size = 1 then vs'.toArray[0] else .tuple vs'.toArray) := by
  unfold single
  split
  · obtain ⟨y, ys, rfl, h1, h2⟩ := h.cons_inv
    have := h2.nil_inv; subst this
    simpa using h1
  · rename_i hn
    have : ¬ (vs'.toArray.size = 1) := by
      intro q
      have hl := h.1
      simp at q
      rw [q] at hl
      match vs, hl with
      | [v], _ => exact hn v rfl
    rw [dif_neg this]
    exact LR.tuple h
theorem call_sound (hname : ∀ (f : Nat) (fn : Func), P.funcs[f]? = some fn → fn.body.isNone = false → (fn.name == "runtime.NumGoroutine") = false)
    (hreg : ∀ call, CallOK P call → RegionOK P call) (ov : OvT)
    (hov : ∀ f g, ov f = some g → ∀ args s v s', g args s = some (v, s') → s.ctr ≤ s'.ctr ∧ ∀ ρ w (args' : Array Value), R ρ s.heap.get w → Fr ρ s → LR ρ args args'.toList →
      Calls P f args' w fun e w' => ∃ ρ' v', e = .returned v' ∧ VR ρ' v v' ∧ Step ρ s.heap.get w ρ' s'.heap.get w' (Nw s s')) :
    ∀ n, CallOK P (evCall P ov n) := by
  intro n
  induction n with
  | zero => intro f args s v s' h; simp [evCall] at h
  | succ n ih =>
    intro f args s v s' h
    simp only [evCall] at h
    split at h
    · rename_i fn hf
      split at h
      · rename_i c hc
        have hex : ∃ fn, P.funcs[f]? = some fn ∧ fn.body.isNone = false ∧ (fn.name == "runtime.NumGoroutine") = false := ⟨fn, hf, by rw [hc]; rfl, hname f fn hf (by rw [hc]; rfl)⟩
        split at h
        · rename_i g hg
          obtain ⟨h1, h2⟩ := hov f g hg args s v s' h
          exact ⟨h1, hex, h2⟩
        · split at h
          · cases h
          · rename_i x env s1 hev hx
            cases hm : fn.results.toList.mapM (evResult P env s1) with
            | none => simp [hm] at h
            | some vs =>
              simp [hm] at h; obtain ⟨rfl, rfl⟩ := h
              obtain ⟨h1, h2⟩ := code_sound (hreg _ ih) c _ _ _ _ _ hx
              refine ⟨h1, hex, fun ρ w args' hR hF hA => ?_⟩
              refine calls_of_wp hf hc (wp_mono (h2 ρ _ w hR ?_ hF rfl) ?_)
              · show LR ρ _ (args' ++ Array.replicate (fn.ntmps - args'.size) undef).toList
                have : args.length = args'.size := by have := hA.1; simpa using this
                rw [Array.toList_append, Array.toList_replicate, ← this]
                exact hA.append (LR.replicate _)
              · rintro e a' w' ⟨rfl, ρ', st, e1, e2⟩
                obtain ⟨vs', q1, q2⟩ := result_sound (P := P) st.rel e1 _ _ hm
                have hres : (results fn a'.tmps).run P w' = .ok (if h : vs'.toArray.size = 1 then vs'.toArray[0] else .tuple vs'.toArray) w' := by
                  unfold results
                  rw [Array.mapM_eq_mapM_toList, Sem.run_bind, Sem.run_map]
                  exact congrArg (fun r : Result (List Value) => (r.andThen fun a w' => Result.ok a.toArray w').andThen fun (a : Array Value) w' => Sem.run P (Pure.pure (if h : a.size = 1 then a[0] else Value.tuple a)) w') q1
                cases x with
                | normal => exact ⟨e2, _, hres, ρ', _, rfl, single_sound q2, st⟩
                | exit id => first | exact (hev _ rfl).elim | exact (hev _ _ _ rfl).elim | exact absurd hx (hev _ _ _)
                | ret => exact ⟨e2, _, hres, ρ', _, rfl, single_sound q2, st⟩
          · cases h
      · cases h
    · cases h
end
open Go.RowKit
section
variable {P : Program}
theorem mapM_congr' {α β : Type} {f g : α → Option β} : ∀ (l : List α), (∀ x ∈ l, f x = g x) → l.mapM f = l.mapM g
  | [], _ => rfl
  | x :: l, h => by
    rw [List.mapM_cons, List.mapM_cons, h x (List.mem_cons_self ..), mapM_congr' l fun y hy => h y (List.mem_cons_of_mem _ hy)]
theorem bound_congr {env env' : Env} {lo : Option Operand} {d top : Nat} (h : ∀ x, lo = some x → evalO env x = evalO env' x) : bound? env lo d top = bound? env' lo d top := by
  unfold bound?
  cases lo with
  | none => rfl
  | some x => simp only [h x rfl]
theorem evSlice_congr {env env' : Env} {g : Nat → Option Blk} {t : TypeId} {x : Value} {lo hi mx : Option Operand} (h1 : ∀ x, lo = some x → evalO env x = evalO env' x) (h2 : ∀ x, hi = some x → evalO env x = evalO env' x)
    (h3 : ∀ x, mx = some x → evalO env x = evalO env' x) : evSlice P env g t x lo hi mx = evSlice P env' g t x lo hi mx := by
  unfold evSlice
  have e1 : ∀ d top, bound? env lo d top = bound? env' lo d top := fun d top => bound_congr h1
  have e2 : ∀ d top, bound? env hi d top = bound? env' hi d top := fun d top => bound_congr h2
  have e3 : ∀ d top, bound? env mx d top = bound? env' mx d top := fun d top => bound_congr h3
  simp only [e1, e2, e3]
theorem evLocal_congr {env env' : Env} {g : Nat → Option Blk} {nm : Nat} {op : Op} (h : ∀ x ∈ op.operands, evalO env x = evalO env' x) : evLocal P env g nm op = evLocal P env' g nm op := by
  cases op <;> simp only [Op.operands] at h <;> simp only [evLocal]
  case build t ps => rw [mapM_congr' (f := fun p : Nat × Operand => (evalO env p.2).map fun v => (p.1, v)) ps.toList fun p hp => by rw [h p.2 (by simp; exact ⟨p.1, by simpa using hp⟩)]]
  case buildSlice t n ps => rw [mapM_congr' (f := fun p : Nat × Operand => (evalO env p.2).map fun v => (p.1, v)) ps.toList fun p hp => by rw [h p.2 (by simp; exact ⟨p.1, by simpa using hp⟩)]]
  case makeFunc fn a b =>
    rw [mapM_congr' a.toList fun p hp => h p (by simp at hp ⊢; exact Or.inl hp), mapM_congr' b.toList fun p hp => h p (by simp at hp ⊢; exact Or.inr hp)]
  case slice t x lo hi mx =>
    rw [h x (by simp)]
    split
    · rw [evSlice_congr (fun y hy => h y (by simp [hy])) (fun y hy => h y (by simp [hy])) (fun y hy => h y (by simp [hy]))]
    · rfl
  case call c =>
    have hargs : c.args.toList.mapM (evalO env) = c.args.toList.mapM (evalO env') := mapM_congr' _ fun p hp => h p (by simp [Call.operands] at hp ⊢; exact Or.inr hp)
    have h0 : (c.args[0]?).bind (evalO env) = (c.args[0]?).bind (evalO env') := by
      cases e : c.args[0]? with
      | none => rfl
      | some x => exact h x (by simp [Call.operands]; exact Or.inr (Array.mem_of_getElem? e))
    simp only [hargs, h0]
  all_goals (try rw [h _ (by simp)])
  all_goals (try rw [h _ (by simp)])
  all_goals (try rw [h _ (by simp)])
theorem evWild_congr {call : CallF} {env env' : Env} {s : St} {nm : Nat} {op : Op} (h : ∀ x ∈ op.operands, evalO env x = evalO env' x) : evWild P call env s nm op = evWild P call env' s nm op := by
  cases op <;> simp only [Op.operands] at h <;> simp only [evWild]
  case store t a x => rw [h a (by simp), h x (by simp)]
  case call c =>
    have hargs : c.args.toList.mapM (evalO env) = c.args.toList.mapM (evalO env') := mapM_congr' _ fun p hp => h p (by simp [Call.operands] at hp ⊢; exact Or.inr hp)
    have hf : ∀ f, c.callee = .value f → evalO env f = evalO env' f := fun f hf => h f (by simp [Call.operands, hf])
    rw [hargs]
    cases hc : c.callee with
    | value f => simp only [hf f hc]
    | invoke r m => rfl
    | builtin b => cases b <;> rfl
def leads (env : Env) (op : Op) (b : Nat) : Prop := ∃ x ∈ op.operands, ∃ v, evalO env x = some v ∧ ((∃ a, v = .pointer (some a) ∧ a.block = b) ∨ ∃ a n c, v = .slice (some a) n c ∧ n ≠ 0 ∧ a.block = b)
theorem evSlice_sub {env : Env} {g g' : Nat → Option Blk} {t : TypeId} {x v : Value} {lo hi mx : Option Operand} (h : ∀ a n c b, x = .slice (some a) n c → n ≠ 0 → g a.block = some b → g' a.block = some b)
    (e : evSlice P env g t x lo hi mx = some v) : evSlice P env g' t x lo hi mx = some v := by
  have es : ∀ (a : Addr) n c (l hh m : Nat) sz, x = .slice (some a) n c → bound? env hi n m = some hh → hh ≤ n → bound? env lo 0 hh = some l → (l = 0 ∨ (g a.block).map (·.es) = some sz) → (l = 0 ∨ (g' a.block).map (·.es) = some sz) := by
    intro a n c l hh m sz hx _ hhn h2 q
    by_cases hl : l = 0
    · exact Or.inl hl
    · right
      rcases q with q | q
      · exact absurd q hl
      · cases hg : g a.block with
        | none => simp [hg] at q
        | some b =>
          have hln : l ≤ hh := by
            unfold bound? at h2
            cases lo with
            | none => simp at h2; omega
            | some lo =>
              simp only at h2
              split at h2
              · split at h2
                · cases h2; omega
                · cases h2
              · cases h2
          rw [h a n c b hx (by omega) hg]
          simpa [hg] using q
  have bnd : ∀ (o : Option Operand) (d top n : Nat), d ≤ top → bound? env o d top = some n → n ≤ top := by
    intro o d top n hd hb
    unfold bound? at hb
    cases o with
    | none => simp at hb; omega
    | some o =>
      simp only at hb
      split at hb
      · split at hb
        · cases hb; omega
        · cases hb
      · cases hb
  unfold evSlice at e ⊢
  split at e
  · rename_i s hu
    try simp only [hu]
    exact e
  · rename_i el a0 n c hu
    try simp only [hu]
    split at e
    · cases e
    · rename_i i hi'
      try simp only [hi']
      split at e
      · split at e
        · cases e
        · rename_i hh e1
          try simp only [e1]
          split at e
          · cases e
          · rename_i l e2
            try simp only [e2]
            split at e
            · rename_i a
              split at e
              · rename_i q
                rw [if_pos (es a n c l hh n _ rfl e1 (bnd _ _ _ _ (Nat.le_refl _) e1) e2 q)]; exact e
              · cases e
            · exact e
      · rename_i mm
        split at e
        · cases e
        · rename_i m e0
          try simp only [e0]
          have hm : m ≤ n := bnd _ _ _ _ (Nat.zero_le _) e0
          split at e
          · cases e
          · rename_i hh e1
            try simp only [e1]
            split at e
            · cases e
            · rename_i l e2
              try simp only [e2]
              split at e
              · cases e
              · rename_i hn
                try simp only [hn, if_false]
                split at e
                · rename_i a
                  split at e
                  · rename_i q
                    have hhm : hh ≤ m := bnd _ _ _ _ (Nat.zero_le _) e1
                    have : (l = 0 ∨ (g' a.block).map (·.es) = some i.size) := by
                      by_cases hl : l = 0
                      · exact Or.inl hl
                      · right
                        rcases q with q | q
                        · exact absurd q hl
                        · cases hg : g a.block with
                          | none => simp [hg] at q
                          | some b =>
                            have := bnd _ _ _ _ (Nat.zero_le _) e2
                            rw [h a n c b rfl (by omega) hg]
                            simpa [hg] using q
                    rw [if_pos this]; exact e
                  · cases e
                · exact e
  · cases e
theorem evLocal_sub {env : Env} {g g' : Nat → Option Blk} {nm : Nat} {op : Op} {v : Value} {ob : Option Blk} (h : ∀ b blk, leads env op b → g b = some blk → g' b = some blk) (e : evLocal P env g nm op = some (v, ob)) :
    evLocal P env g' nm op = some (v, ob) := by
  cases op <;> simp only [evLocal] at e ⊢ <;> (try exact e)
  case load t x =>
    split at e
    · rename_i a hx
      split at e
      · rename_i blk hg
        have := h a.block blk ⟨x, by simp [Op.operands], _, hx, Or.inl ⟨a, rfl, rfl⟩⟩ hg
        (try simp only [this]); exact e
      · cases e
    · cases e
  case convert src dst x =>
    split at e
    · rename_i vx hx
      try simp only [hx]
      unfold evConv at e ⊢
      split at e
      · exact e
      · exact e
      · exact e
      · rename_i el a n c hs hd
        try simp only [hs, hd]
        split at e
        · rename_i hel
          try simp only [hel]
          split at e
          · rename_i hn; (try simp only [hn, if_true]); exact e
          · rename_i hn
            try simp only [hn, if_false]
            split at e
            · rename_i blk hg
              have := h a.block blk ⟨x, by simp [Op.operands], _, hx, Or.inr ⟨a, n, c, rfl, hn, rfl⟩⟩ hg
              (try simp only [this]); exact e
            · cases e
        · cases e
      · rename_i hn1 hn2 hn3 hn4 hs hd
        (try simp only [hs, hd]); exact e
      · cases e
    · cases e
  case slice t x lo hi mx =>
    split at e
    · rename_i vx hx
      try simp only [hx]
      cases hb : evSlice P env g t vx lo hi mx with
      | none => simp [hb] at e
      | some vv =>
        rw [evSlice_sub (g' := g') (fun a n c b hx' hn hg => h a.block b ⟨x, by simp [Op.operands], _, hx, Or.inr ⟨a, n, c, hx', hn, rfl⟩⟩ hg) hb]
        simpa [hb] using e
    · cases e
theorem evLocal_noreads {env : Env} {g g' : Nat → Option Blk} {nm : Nat} {op : Op} (h : reads op = false) : evLocal P env g nm op = evLocal P env g' nm op := by
  cases op <;> first | rfl | (simp [reads] at h)
theorem evLocal_noallocs {env : Env} {g : Nat → Option Blk} {nm : Nat} {op : Op} {v : Value} {ob : Option Blk} (h : allocs op = false) (e : evLocal P env g nm op = some (v, ob)) : ob = none := by
  cases op <;> simp [allocs] at h <;> simp only [evLocal] at e <;> (try (cases e; done))
  all_goals
    repeat' split at e
    all_goals first
      | (cases e; done)
      | (cases e; rfl)
      | (simp only [Option.map_eq_some_iff, Prod.mk.injEq] at e; obtain ⟨_, _, _, e⟩ := e; exact e.symm)
end
open Go.RowKit
theorem masks_prefix : ∀ (l : List Oper) (acc : List Nat), acc <+: masks l acc
  | [], acc => List.prefix_refl _
  | o :: r, acc => (List.prefix_append acc [maskOf acc o]).trans (masks_prefix r _)
theorem masks_get : ∀ (l : List Oper) (acc : List Nat) (i : Nat) (o : Oper), l[i]? = some o → (masks l acc).getD (acc.length + i) 0 = maskOf ((masks l acc).take (acc.length + i)) o
  | [], acc, i, o, h => by simp at h
  | q :: r, acc, 0, o, h => by
    simp only [List.getElem?_cons_zero, Option.some.injEq] at h; subst h
    have hp := masks_prefix r (acc ++ [maskOf acc q])
    obtain ⟨t, ht⟩ := hp
    simp only [masks, Nat.add_zero, ← ht]
    rw [List.append_assoc, List.take_left']
    · simp [List.getD]
    · rfl
  | q :: r, acc, i + 1, o, h => by
    have := masks_get r (acc ++ [maskOf acc q]) i o (by simpa using h)
    simp only [masks]
    have e : (acc ++ [maskOf acc q]).length + i = acc.length + (i + 1) := by simp; omega
    rw [e] at this; exact this
theorem maskOf_bit (acc : List Nat) (j : Nat) : ∀ (es : List Edge) (s : Nat), (es.foldl (fun s e => if Region.binds .any e then s ||| 2 ^ e.on ||| acc.getD e.on 0 else s) s).testBit j = true →
    s.testBit j = true ∨ ∃ e ∈ es, Region.binds .any e = true ∧ (e.on = j ∨ (acc.getD e.on 0).testBit j = true)
  | [], s, h => Or.inl h
  | e :: es, s, h => by
    rw [List.foldl_cons] at h
    rcases maskOf_bit acc j es _ h with h | ⟨e', h1, h2⟩
    · split at h
      · rename_i hb
        simp only [Nat.testBit_or, Bool.or_eq_true] at h
        rcases h with (h | h) | h
        · exact Or.inl h
        · rw [Nat.testBit_two_pow] at h
          exact Or.inr ⟨e, List.mem_cons_self .., hb, Or.inl (by simpa using h)⟩
        · exact Or.inr ⟨e, List.mem_cons_self .., hb, Or.inr h⟩
      · exact Or.inl h
    · exact Or.inr ⟨e', List.mem_cons_of_mem _ h1, h2⟩
theorem anc_edge {ops : Array Oper} {i j : Nat} {o : Oper} (ho : ops[i]? = some o) (h : anc (masks ops.toList []) j i = true) :
    ∃ e ∈ o.after.toList, Region.binds .any e = true ∧ (e.on = j ∨ (e.on < i ∧ anc (masks ops.toList []) j e.on = true)) := by
  unfold anc at h
  have hg := masks_get ops.toList [] i o (by simpa using ho)
  simp only [List.length_nil, Nat.zero_add] at hg
  rw [hg] at h
  rcases maskOf_bit _ j _ 0 h with h | ⟨e, h1, h2, h3⟩
  · simp at h
  · refine ⟨e, h1, h2, h3.imp id fun h3 => ?_⟩
    by_cases he : e.on < i
    · refine ⟨he, ?_⟩
      unfold anc
      simp only [List.getD, List.getElem?_take, he, if_true] at h3 ⊢
      exact h3
    · simp only [List.getD, List.getElem?_take, he, if_false, Option.getD_none, Nat.zero_testBit] at h3
      cases h3
theorem anc_closed {ops : Array Oper} {L : Nat → Prop} (hc : ∀ j o e, ops[j]? = some o → L j → e ∈ o.after.toList → Region.binds .any e = true → L e.on) (j : Nat) :
    ∀ (i : Nat), L i → i < ops.size → anc (masks ops.toList []) j i = true → L j := by
  intro i
  induction i using Nat.strongRecOn with
  | _ i ih =>
    intro hi hs h
    obtain ⟨o, ho⟩ : ∃ o, ops[i]? = some o := ⟨_, Array.getElem?_eq_getElem hs⟩
    obtain ⟨e, h1, h2, h3 | ⟨h3, h4⟩⟩ := anc_edge ho h
    · rw [← h3]; exact hc i o e ho hi h1 h2
    · exact ih e.on h3 (hc i o e ho hi h1 h2) (by omega) h4
theorem anc_ready {ops : Array Oper} {L : Nat → Prop} (hc : ∀ j o e, ops[j]? = some o → L j → e ∈ o.after.toList → Region.binds .any e = true → L e.on) {i j : Nat} {o : Oper} (ho : ops[i]? = some o)
    (hr : ∀ e ∈ o.after.toList, Region.binds .any e = true → L e.on) (h : anc (masks ops.toList []) j i = true) : L j := by
  have hs : i < ops.size := by
    rcases Nat.lt_or_ge i ops.size with q | q
    · exact q
    · rw [Array.getElem?_eq_none q] at ho; cases ho
  obtain ⟨e, h1, h2, h3 | ⟨h3, h4⟩⟩ := anc_edge ho h
  · rw [← h3]; exact hr e h1 h2
  · exact anc_closed hc j e.on (hr e h1 h2) (by omega) h4
structure DrawFacts (ops : Array Oper) : Prop where
  edges : ∀ (i : Nat) (o : Oper), ops[i]? = some o → ∀ e ∈ o.after.toList, Region.binds .any e = true → e.on < i
  own : ∀ (i : Nat) (o : Oper) (d : Tmp), ops[i]? = some o → o.dst = some d → d ∉ looks ops o
  uniq : ∀ (i j : Nat) (a b : Oper) (d : Tmp), ops[i]? = some a → ops[j]? = some b → i ≠ j → a.dst = some d → b.dst ≠ some d
  readA : ∀ (i j : Nat) (a b : Oper) (d : Tmp), i < j → ops[i]? = some a → ops[j]? = some b → a.dst = some d → d ∈ looks ops b → anc (masks ops.toList []) i j = true
  readB : ∀ (i j : Nat) (a b : Oper) (d : Tmp), i < j → ops[i]? = some a → ops[j]? = some b → b.dst = some d → d ∈ looks ops a → anc (masks ops.toList []) i j = true
  readC : ∀ (i j : Nat) (a b : Oper) (d : Tmp), i < j → ops[i]? = some a → ops[j]? = some b → b.dst = some d → reads a.op = true → d ∉ looks ops a
  wilds : ∀ (i j : Nat) (a b : Oper), i < j → ops[i]? = some a → ops[j]? = some b → wild a.op = true → wild b.op = true → anc (masks ops.toList []) i j = true
  allocs : ∀ (i j : Nat) (a b : Oper), i < j → ops[i]? = some a → ops[j]? = some b → allocs a.op = true → wild b.op = true → anc (masks ops.toList []) i j = true
theorem drawFacts {ops : Array Oper} (h : drawOk ops = true) : DrawFacts ops := by
  unfold drawOk at h
  simp only [Bool.and_eq_true, List.all_eq_true] at h
  obtain ⟨h1, h2⟩ := h
  have mem : ∀ {i : Nat} {o : Oper}, ops[i]? = some o → (o, i) ∈ ops.toList.zipIdx := by
    intro i o ho; rw [List.mem_zipIdx_iff_getElem?]; simpa using ho
  have one := fun {i : Nat} {o : Oper} (ho : ops[i]? = some o) => h1 (o, i) (mem ho)
  have two : ∀ {i j : Nat} {a b : Oper}, i < j → ops[i]? = some a → ops[j]? = some b → pairOk ops (masks ops.toList []) i j a b = true := by
    intro i j a b hij ha hb
    have := h2 (a, i) (mem ha) (b, j) (mem hb)
    simpa [hij] using this
  have imp : ∀ {x y : Bool}, (!x || y) = true → x = true → y = true := by intro x y; cases x <;> simp
  refine ⟨?_, ?_, ?_, ?_, ?_, ?_, ?_, ?_⟩
  · intro i o ho e he hb
    have := (one ho).1.1
    simp only [edgesOk, List.all_eq_true] at this
    have := this e he
    simpa [hb] using this
  · intro i o d ho hd
    have := (one ho).1.2
    simp only [hd] at this
    simpa using this
  · intro i j a b d ha hb hij hd
    rcases Nat.lt_or_gt_of_ne hij with q | q
    · have := two q ha hb
      simp only [pairOk, hd, Bool.and_eq_true] at this
      simpa using this.1.1.1.1
    · have := two q hb ha
      simp only [pairOk, hd, Bool.and_eq_true] at this
      intro hb'
      have h3 := this.1.1.1
      simp only [hb'] at h3
      simp at h3
  · intro i j a b d hij ha hb hd hm
    have := two hij ha hb
    simp only [pairOk, hd, Bool.and_eq_true] at this
    exact imp this.1.1.1.2 (by simpa using hm)
  · intro i j a b d hij ha hb hd hm
    have := two hij ha hb
    simp only [pairOk, Bool.and_eq_true] at this
    have h3 := this.1.1.2
    simp only [hd] at h3
    have h4 := imp h3 (by simpa using hm)
    simp only [Bool.and_eq_true] at h4
    exact h4.1
  · intro i j a b d hij ha hb hd hr hm
    have := two hij ha hb
    simp only [pairOk, Bool.and_eq_true] at this
    have h3 := this.1.1.2
    simp only [hd] at h3
    have h4 := imp h3 (by simpa using hm)
    simp [hr] at h4
  · intro i j a b hij ha hb hw1 hw2
    have := two hij ha hb
    simp only [pairOk, Bool.and_eq_true] at this
    exact imp this.1.2 (by simp [hw1, hw2])
  · intro i j a b hij ha hb hw1 hw2
    have := two hij ha hb
    simp only [pairOk, Bool.and_eq_true] at this
    exact imp this.2 (by simp [hw1, hw2])
section
variable {P : Program} {call : CallF} {ops : Array Oper} {c0 : Nat}
structure Chain (P : Program) (call : CallF) (ops : Array Oper) (c0 : Nat) (rs : Nat → RS) : Prop where
  step : ∀ i o, ops[i]? = some o → evStep P call ops c0 i o (rs i) = some (rs (i + 1))
theorem chain_of : ∀ (rest : List Oper) (i : Nat) (r r' : RS), ops.toList.drop i = rest → i ≤ ops.size → evOps P call ops c0 rest i r = some r' →
    ∃ rs : Nat → RS, rs i = r ∧ rs ops.size = r' ∧ ∀ j o, i ≤ j → ops[j]? = some o → evStep P call ops c0 j o (rs j) = some (rs (j + 1))
  | [], i, r, r', hd, hi, h => by
    simp only [evOps, Option.some.injEq] at h; subst h
    have : ops.size ≤ i := by
      have := List.drop_eq_nil_iff.1 hd; simpa using this
    refine ⟨fun _ => r, rfl, rfl, fun j o hj ho => ?_⟩
    rw [Array.getElem?_eq_none (by omega)] at ho; cases ho
  | o :: rest, i, r, r', hd, hi, h => by
    simp only [evOps] at h
    have hlt : i < ops.size := by
      rcases Nat.lt_or_ge i ops.size with q | q
      · exact q
      · rw [List.drop_of_length_le (by simpa using q)] at hd; cases hd
    have ho : ops[i]? = some o := by
      have : (ops.toList.drop i)[0]? = some o := by rw [hd]; rfl
      simpa using this
    have hd' : ops.toList.drop (i + 1) = rest := by rw [← List.drop_drop, hd]; rfl
    split at h
    · rename_i r1 h1
      obtain ⟨rs, e1, e2, e3⟩ := chain_of rest (i + 1) r1 r' hd' hlt h
      refine ⟨fun j => if j = i then r else rs j, by simp, by simp only; rw [if_neg (by omega)]; exact e2, fun j q hj hq => ?_⟩
      by_cases e : j = i
      · subst e
        rw [ho] at hq; cases hq
        simp only [if_true]; rw [if_neg (by omega), h1, e1]
      · simp only [if_neg e]; rw [if_neg (by omega)]; exact e3 j q (by omega) hq
    · cases h
theorem step_cases {i : Nat} {o : Oper} {r r' : RS} (h : evStep P call ops c0 i o r = some r') :
    (Region.wanted o (yieldedA ops r.env) = false ∧ r'.env = putA r.env o.dst undef ∧ r'.st = r.st ∧ r'.made = r.made ∧ r'.snaps = (if wild o.op then (i + 1, r.st.heap) :: r.snaps else r.snaps)) ∨
    (Region.wanted o (yieldedA ops r.env) = true ∧ wild o.op = true ∧ ∃ v, evWild P call r.env r.st (c0 + i) o.op = some (v, r'.st) ∧ r'.env = putA r.env o.dst v ∧ r'.made = r.made ∧ r'.snaps = (i + 1, r'.st.heap) :: r.snaps) ∨
    (Region.wanted o (yieldedA ops r.env) = true ∧ wild o.op = false ∧ ∃ v ob, evLocal P r.env r.st.heap.get (c0 + i) o.op = some (v, ob) ∧ r'.env = putA r.env o.dst v ∧ r'.snaps = r.snaps ∧ r'.st.ctr = r.st.ctr ∧
      (∀ x, r'.st.heap.get x = gput r.st.heap.get (c0 + i) ob x) ∧ (∀ x, r'.made.get x = gput r.made.get (c0 + i) ob x)) := by
  unfold evStep at h
  split at h
  · rename_i hw
    right
    split at h
    · rename_i hwild
      left
      split at h
      · rename_i v s hev; cases h; exact ⟨hw, hwild, v, hev, rfl, rfl, rfl⟩
      · cases h
    · rename_i hwild
      right
      have hwild' : wild o.op = false := by simpa using hwild
      split at h
      · rename_i v hev; cases h; exact ⟨hw, hwild', v, none, hev, rfl, rfl, rfl, fun _ => rfl, fun _ => rfl⟩
      · rename_i v b hev; cases h
        exact ⟨hw, hwild', v, some b, hev, rfl, rfl, rfl, fun x => by simp [gput, T.get_set], fun x => by simp [gput, T.get_set]⟩
      · cases h
  · rename_i hw
    cases h
    exact Or.inl ⟨by simpa using hw, rfl, rfl, rfl, rfl⟩
theorem step_env {i : Nat} {o : Oper} {r r' : RS} (h : evStep P call ops c0 i o r = some r') : ∃ v, r'.env = putA r.env o.dst v := by
  rcases step_cases h with ⟨_, h, _⟩ | ⟨_, _, v, _, h, _⟩ | ⟨_, _, v, _, _, h, _⟩ <;> exact ⟨_, h⟩
theorem putA_length (env : Env) (d : Option Tmp) (v : Value) : (putA env d v).length = env.length := by cases d <;> simp [putA]
theorem putA_other (env : Env) (d : Option Tmp) (v : Value) (t : Nat) (h : d ≠ some t) : (putA env d v)[t]? = env[t]? := by
  cases d with
  | none => rfl
  | some d => simp only [putA, List.getElem?_set]; rw [if_neg (by intro e; exact h (by rw [e]))]
variable {rs : Nat → RS} (hch : Chain P call ops c0 rs)
include hch
theorem env_length : ∀ i, i ≤ ops.size → (rs i).env.length = (rs 0).env.length
  | 0, _ => rfl
  | i + 1, h => by
    obtain ⟨o, ho⟩ : ∃ o, ops[i]? = some o := ⟨_, Array.getElem?_eq_getElem (by omega)⟩
    obtain ⟨v, hv⟩ := step_env (hch.step i o ho)
    rw [hv, putA_length, env_length i (by omega)]
theorem env_keep (t : Nat) (a : Nat) : ∀ b, a ≤ b → b ≤ ops.size → (∀ j o, a ≤ j → j < b → ops[j]? = some o → o.dst ≠ some t) → (rs b).env[t]? = (rs a).env[t]?
  | 0, h, _, _ => by rw [Nat.le_zero.1 h]
  | b + 1, h, hs, hn => by
    by_cases e : a = b + 1
    · rw [e]
    · obtain ⟨o, ho⟩ : ∃ o, ops[b]? = some o := ⟨_, Array.getElem?_eq_getElem (by omega)⟩
      obtain ⟨v, hv⟩ := step_env (hch.step b o ho)
      rw [hv, putA_other _ _ _ _ (hn b o (by omega) (by omega) ho), env_keep t a b (by omega) (by omega) (fun j o h1 h2 => hn j o h1 (by omega))]
theorem made_keep (x : Nat) (a : Nat) : ∀ b, a ≤ b → b ≤ ops.size → (∀ j, a ≤ j → j < b → x ≠ c0 + j) → (rs b).made.get x = (rs a).made.get x
  | 0, h, _, _ => by rw [Nat.le_zero.1 h]
  | b + 1, h, hs, hn => by
    by_cases e : a = b + 1
    · rw [e]
    · obtain ⟨o, ho⟩ : ∃ o, ops[b]? = some o := ⟨_, Array.getElem?_eq_getElem (by omega)⟩
      have ih := made_keep x a b (by omega) (by omega) (fun j h1 h2 => hn j h1 (by omega))
      have hx := hn b (by omega) (by omega)
      rw [← ih]
      rcases step_cases (hch.step b o ho) with ⟨_, _, _, h, _⟩ | ⟨_, _, v, _, _, h, _⟩ | ⟨_, _, v, ob, _, _, _, _, _, h⟩
      · rw [h]
      · rw [h]
      · rw [h x]; cases ob with
        | none => rfl
        | some q => simp [gput, hx]
theorem made_final (j : Nat) (hj : j < ops.size) : (rs ops.size).made.get (c0 + j) = (rs (j + 1)).made.get (c0 + j) :=
  made_keep hch (c0 + j) (j + 1) ops.size (by omega) (Nat.le_refl _) (fun k h1 h2 => by omega)
theorem made_before (h0 : (rs 0).made = .leaf) (j : Nat) (hj : j ≤ ops.size) : (rs j).made.get (c0 + j) = none := by
  rw [made_keep hch (c0 + j) 0 j (by omega) hj (fun k h1 h2 => by omega), h0]; exact T.getF_leaf _ _
theorem made_alloc (h0 : (rs 0).made = .leaf) {j : Nat} {o : Oper} (ho : ops[j]? = some o) {blk : Blk} (h : (rs ops.size).made.get (c0 + j) = some blk) : allocs o.op = true := by
  have hj : j < ops.size := by
    rcases Nat.lt_or_ge j ops.size with q | q
    · exact q
    · rw [Array.getElem?_eq_none q] at ho; cases ho
  rw [made_final hch j hj] at h
  have hb := made_before hch h0 j (by omega)
  cases ha : allocs o.op with
  | true => rfl
  | false =>
    rcases step_cases (hch.step j o ho) with ⟨_, _, _, e, _⟩ | ⟨_, _, v, _, _, e, _⟩ | ⟨_, _, v, ob, e1, _, _, _, _, e⟩
    · rw [e, hb] at h; cases h
    · rw [e, hb] at h; cases h
    · rw [e _, evLocal_noallocs ha e1] at h
      have : gput (rs j).made.get (c0 + j) none (c0 + j) = (rs j).made.get (c0 + j) := rfl
      rw [this, hb] at h; cases h
theorem heap_plain (h0 : (rs 0).made = .leaf) {a : Nat} (hj : ∀ j, a ≤ j → j < ops.size → (rs a).st.heap.get (c0 + j) = none) : ∀ b, a ≤ b → b ≤ ops.size → (∀ j o, a ≤ j → j < b → ops[j]? = some o → wild o.op = false) →
    (rs b).st.ctr = (rs a).st.ctr ∧ ∀ x, (rs b).st.heap.get x = if c0 + a ≤ x ∧ x < c0 + b then (rs ops.size).made.get x else (rs a).st.heap.get x
  | 0, h, _, _ => by
    rw [Nat.le_zero.1 h]; exact ⟨rfl, fun x => by rw [if_neg (by omega)]⟩
  | b + 1, h, hs, hn => by
    by_cases e : a = b + 1
    · rw [e]; exact ⟨rfl, fun x => by rw [if_neg (by omega)]⟩
    · obtain ⟨o, ho⟩ : ∃ o, ops[b]? = some o := ⟨_, Array.getElem?_eq_getElem (by omega)⟩
      obtain ⟨i1, i2⟩ := heap_plain h0 hj b (by omega) (by omega) (fun j o h1 h2 => hn j o h1 (by omega))
      have hw := hn b o (by omega) (by omega) ho
      have hmk := made_final hch b (by omega)
      have hbn : (rs b).st.heap.get (c0 + b) = none := by rw [i2, if_neg (by omega)]; exact hj b (by omega) (by omega)
      have hmb := made_before hch h0 b (by omega)
      rcases step_cases (hch.step b o ho) with ⟨_, _, h1, hmm, _⟩ | ⟨_, h1, _⟩ | ⟨_, _, v, ob, h1, _, _, h2, h3, h4⟩
      · rw [h1]
        refine ⟨i1, fun x => ?_⟩
        rw [i2 x]
        by_cases q : x = c0 + b
        · subst q
          rw [if_neg (by omega), if_pos (by omega), hmk, hmm, hmb]; exact hj b (by omega) (by omega)
        · by_cases q2 : c0 + a ≤ x ∧ x < c0 + b
          · rw [if_pos q2, if_pos (by omega)]
          · rw [if_neg q2, if_neg (by omega)]
      · rw [hw] at h1; cases h1
      · refine ⟨h2.trans i1, fun x => ?_⟩
        rw [h3 x]
        by_cases q : x = c0 + b
        · subst q
          rw [if_pos (by omega), hmk, h4]
          cases ob with
          | some blk => simp [gput]
          | none => show (rs b).st.heap.get (c0 + b) = (rs b).made.get (c0 + b); rw [hbn, hmb]
        · have : gput (rs b).st.heap.get (c0 + b) ob x = (rs b).st.heap.get x := by cases ob <;> simp [gput, q]
          rw [this, i2 x]
          by_cases q2 : c0 + a ≤ x ∧ x < c0 + b
          · rw [if_pos q2, if_pos (by omega)]
          · rw [if_neg q2, if_neg (by omega)]
theorem snaps_find : ∀ (b : Nat), b ≤ ops.size → (rs 0).snaps = [(0, (rs 0).st.heap)] → ∀ p, p ≤ b → (p = 0 ∨ ∃ w0 o, p = w0 + 1 ∧ ops[w0]? = some o ∧ wild o.op = true) →
    (rs b).snaps.find? (fun q => q.1 == p) = some (p, (rs p).st.heap)
  | 0, _, h0, p, hp, _ => by
    have : p = 0 := by omega
    subst this; rw [h0]; rfl
  | b + 1, hs, h0, p, hp, hw => by
    obtain ⟨o, ho⟩ : ∃ o, ops[b]? = some o := ⟨_, Array.getElem?_eq_getElem (by omega)⟩
    have keep : p ≤ b → (rs b).snaps.find? (fun q => q.1 == p) = some (p, (rs p).st.heap) := fun hpb => snaps_find b (by omega) h0 p hpb hw
    have head : ∀ h, ((b + 1, h) :: (rs b).snaps).find? (fun q => q.1 == p) = if p = b + 1 then some (b + 1, h) else (rs b).snaps.find? (fun q => q.1 == p) := by
      intro h
      by_cases e : p = b + 1
      · subst e; simp
      · rw [if_neg e, List.find?_cons_of_neg (by simp; omega)]
    have wildHere : p = b + 1 → wild o.op = true := by
      intro e
      rcases hw with hw | ⟨w0, q, h1, h2, h3⟩
      · omega
      · have : w0 = b := by omega
        subst this; rw [ho] at h2; cases h2; exact h3
    rcases step_cases (hch.step b o ho) with ⟨_, _, h1, _, h2⟩ | ⟨_, _, v, _, _, _, h2⟩ | ⟨_, h1, v, ob, _, _, h2, _⟩
    · rw [h2]
      by_cases e : p = b + 1
      · rw [wildHere e, if_pos rfl, head, if_pos e, e, h1]
      · split
        · rw [head, if_neg e]; exact keep (by omega)
        · exact keep (by omega)
    · rw [h2, head]
      by_cases e : p = b + 1
      · rw [if_pos e, e]
      · rw [if_neg e]; exact keep (by omega)
    · rw [h2]
      refine keep ?_
      rcases Nat.lt_or_ge b p with q | q
      · have := wildHere (by omega); rw [h1] at this; cases this
      · exact q
end
open Go.RowKit Classical
noncomputable def envAt (ops : Array Oper) (rs : Nat → RS) (L : Nat → Prop) (t : Nat) : Value :=
  if ∃ (j : Nat) (o : Oper), L j ∧ ops[j]? = some o ∧ o.dst = some t then (rs ops.size).env.getD t undef else (rs 0).env.getD t undef
noncomputable def envL (ops : Array Oper) (rs : Nat → RS) (L : Nat → Prop) : Env := (List.range (rs 0).env.length).map (envAt ops rs L)
noncomputable def heapL (ops : Array Oper) (c0 : Nat) (rs : Nat → RS) (L : Nat → Prop) (p x : Nat) : Option Blk :=
  if c0 + p ≤ x ∧ x < c0 + ops.size then (if L (x - c0) then (rs ops.size).made.get x else none) else (rs p).st.heap.get x
section
variable {P : Program} {call : CallF} {ops : Array Oper} {c0 : Nat} {rs : Nat → RS}
theorem envL_get? (L : Nat → Prop) (t : Nat) : (envL ops rs L)[t]? = if t < (rs 0).env.length then some (envAt ops rs L t) else none := by
  simp only [envL, List.getElem?_map]
  split
  · rename_i h; simp [h]
  · rename_i h; simp [h]
theorem envL_looks (hch : Chain P call ops c0 rs) (hd : DrawFacts ops) {L : Nat → Prop} {i : Nat} {o : Oper} (ho : ops[i]? = some o) (hi : ¬ L i)
    (hc : ∀ j o e, ops[j]? = some o → L j → e ∈ o.after.toList → Region.binds .any e = true → L e.on) (hr : ∀ e ∈ o.after.toList, Region.binds .any e = true → L e.on) (hLs : ∀ j, L j → j < ops.size)
    {t : Nat} (ht : t ∈ looks ops o) : (envL ops rs L)[t]? = (rs i).env[t]? := by
  have his : i < ops.size := by
    rcases Nat.lt_or_ge i ops.size with q | q
    · exact q
    · rw [Array.getElem?_eq_none q] at ho; cases ho
  have hlen := env_length hch i (by omega)
  rw [envL_get?]
  by_cases hlt : t < (rs 0).env.length
  · rw [if_pos hlt]
    have getD_some : ∀ k, k ≤ ops.size → (rs k).env[t]? = some ((rs k).env.getD t undef) := by
      intro k hk
      have := env_length hch k hk
      rw [List.getElem?_eq_getElem (by omega)]
      simp only [List.getD, List.getElem?_eq_getElem (show t < (rs k).env.length by omega), Option.getD_some]
    unfold envAt
    split
    · rename_i hw
      obtain ⟨j, oj, h1, h2, h3⟩ := hw
      have hjs := hLs j h1
      have hji : j < i := by
        rcases Nat.lt_trichotomy j i with q | q | q
        · exact q
        · subst q; exact absurd h1 hi
        · have := hd.readB i j o oj t q ho h2 h3 ht
          exact absurd (anc_closed hc i j h1 hjs this) hi
      rw [← getD_some ops.size (Nat.le_refl _)]
      rw [env_keep hch t (j + 1) ops.size (by omega) (Nat.le_refl _) (fun k ok h4 h5 h6 => hd.uniq j k oj ok t h2 h6 (by omega) h3)]
      rw [env_keep hch t (j + 1) i (by omega) (by omega) (fun k ok h4 h5 h6 => hd.uniq j k oj ok t h2 h6 (by omega) h3)]
    · rename_i hw
      rw [← getD_some 0 (Nat.zero_le _)]
      refine (env_keep hch t 0 i (Nat.zero_le _) (by omega) (fun k ok h4 h5 h6 h7 => ?_)).symm
      exact hw ⟨k, ok, anc_ready hc ho hr (hd.readA k i ok o t h5 h6 ho h7 ht), h6, h7⟩
  · rw [if_neg hlt, List.getElem?_eq_none (by omega)]
theorem envL_put (hch : Chain P call ops c0 rs) (hd : DrawFacts ops) {L : Nat → Prop} {i : Nat} {o : Oper} (ho : ops[i]? = some o) (hi : ¬ L i) {v : Value} (hv : (rs (i + 1)).env = putA (rs i).env o.dst v) :
    envL ops rs (fun j => L j ∨ j = i) = putA (envL ops rs L) o.dst v := by
  have his : i < ops.size := by
    rcases Nat.lt_or_ge i ops.size with q | q
    · exact q
    · rw [Array.getElem?_eq_none q] at ho; cases ho
  apply List.ext_getElem?
  intro t
  by_cases e : o.dst = some t
  · have hp : putA (envL ops rs L) o.dst v = (envL ops rs L).set t v := by rw [e]; rfl
    rw [hp, envL_get?, List.getElem?_set]
    have hl : (envL ops rs L).length = (rs 0).env.length := by simp [envL]
    by_cases hlt : t < (rs 0).env.length
    · rw [if_pos hlt]
      simp only [if_true, hl, hlt]
      unfold envAt
      rw [if_pos ⟨i, o, Or.inr rfl, ho, e⟩]
      have h1 := env_keep hch t (i + 1) ops.size (by omega) (Nat.le_refl _) (fun k ok h4 h5 h6 => hd.uniq i k o ok t ho h6 (by omega) e)
      have h2 : (rs (i + 1)).env[t]? = some v := by
        rw [hv, e]
        have hl2 := env_length hch i (by omega)
        simp only [putA, List.getElem?_set, if_true]
        rw [if_pos (by rw [hl2]; exact hlt)]
      simp only [List.getD, h1, h2, Option.getD_some]
    · rw [if_neg hlt]; simp [hl, hlt]
  · rw [putA_other _ _ _ _ e, envL_get?, envL_get?]
    congr 1
    unfold envAt
    have : (∃ (j : Nat) (q : Oper), (L j ∨ j = i) ∧ ops[j]? = some q ∧ q.dst = some t) ↔ (∃ (j : Nat) (q : Oper), L j ∧ ops[j]? = some q ∧ q.dst = some t) := by
      constructor
      · rintro ⟨j, q, h1 | h1, h2, h3⟩
        · exact ⟨j, q, h1, h2, h3⟩
        · subst h1; rw [ho] at h2; cases h2; exact absurd h3 e
      · rintro ⟨j, q, h1, h2, h3⟩; exact ⟨j, q, Or.inl h1, h2, h3⟩
    simp only [this]
structure Inv (ops : Array Oper) (c0 : Nat) (rs : Nat → RS) (ρ₀ : Ren) (g₀ : Nat → Option Blk) (w₀ : World) (L : Nat → Prop) (p : Nat) (ρ : Ren) (a : Act) (w : World) : Prop where
  bnd : ∀ j, L j → j < ops.size
  pos : p = 0 ∨ ∃ w0 o, p = w0 + 1 ∧ ops[w0]? = some o ∧ wild o.op = true
  ple : p ≤ ops.size
  wl : ∀ (j : Nat) (o : Oper), ops[j]? = some o → wild o.op = true → (L j ↔ j < p)
  closed : ∀ (j : Nat) (o : Oper) (e : Edge), ops[j]? = some o → L j → e ∈ o.after.toList → Region.binds .any e = true → L e.on
  env : ER ρ (envL ops rs L) a.tmps
  step : Step ρ₀ g₀ w₀ ρ (heapL ops c0 rs L p) w (fun b => c0 ≤ b ∧ b < (rs p).st.ctr)
  names : ∀ j, j < ops.size → ¬ L j → ρ (c0 + j) = none
  fresh : ∀ b, (rs p).st.ctr ≤ b → ρ b = none
  junk : ∀ j, p ≤ j → j < ops.size → (rs p).st.heap.get (c0 + j) = none
  ctr : c0 + ops.size ≤ (rs p).st.ctr
  dfr : a.defers = []
def Held (P : Program) (ops : Array Oper) (c0 : Nat) (rs : Nat → RS) : Prop := ∀ q ∈ pairs ops, pairB P ops c0 (rs ops.size) q = true
theorem mem_wilds {j : Nat} {o : Oper} (ho : ops[j]? = some o) (hw : wild o.op = true) : j ∈ wilds ops := by
  unfold wilds
  rw [List.mem_map]
  exact ⟨(o, j), by rw [List.mem_filter]; exact ⟨by rw [List.mem_zipIdx_iff_getElem?]; simpa using ho, hw⟩, rfl⟩
theorem of_mem_wilds {j : Nat} (h : j ∈ wilds ops) : ∃ o, ops[j]? = some o ∧ wild o.op = true := by
  unfold wilds at h
  rw [List.mem_map] at h
  obtain ⟨⟨o, i⟩, h1, rfl⟩ := h
  rw [List.mem_filter, List.mem_zipIdx_iff_getElem?] at h1
  exact ⟨o, by simpa using h1.1, h1.2⟩
theorem sameCells_eq : ∀ (xs ys : List Value), sameCells xs ys = true → xs = ys := by
  have one : ∀ x y, sameValue x y = true → x = y := by
    intro x y h
    cases x <;> cases y <;> simp only [sameValue] at h <;> first
      | (cases h; done)
      | rfl
      | (simp only [Bool.and_eq_true, decide_eq_true_eq, beq_iff_eq] at h; obtain ⟨h1, h2⟩ := h; subst h1 h2; rfl)
      | (simp only [beq_iff_eq] at h; subst h; rfl)
      | (simp only [decide_eq_true_eq] at h; subst h; rfl)
      | (simp only [Bool.and_eq_true, decide_eq_true_eq, beq_iff_eq] at h; obtain ⟨⟨h1, h2⟩, h3⟩ := h; subst h1 h2 h3; rfl)
      | skip
    rename_i a b
    have : a.data.toList = b.data.toList := by simpa using h
    congr 1
    apply ByteArray.ext
    apply Array.ext'; exact this
  intro xs
  induction xs with
  | nil => intro ys h; cases ys with
    | nil => rfl
    | cons _ _ => simp [sameCells] at h
  | cons x xs ih => intro ys h; cases ys with
    | nil => simp [sameCells] at h
    | cons y ys =>
      simp only [sameCells, Bool.and_eq_true] at h
      rw [one x y h.1, ih ys h.2]
theorem sameV_eq {x y : Value} (h : sameV x y = true) : x = y := by
  have one : ∀ x y, sameValue x y = true → x = y := by
    intro x y h
    have := sameCells_eq [x] [y] (by simp [sameCells, h])
    simpa using this
  unfold sameV at h
  split at h
  · rename_i a b
    congr 1
    apply Array.ext'; exact sameCells_eq _ _ h
  · exact one _ _ h
theorem Inv.look (hch : Chain P call ops c0 rs) (hd : DrawFacts ops) {ρ₀ ρ : Ren} {g₀ : Nat → Option Blk} {w₀ w : World} {L : Nat → Prop} {p : Nat} {a : Act} (I : Inv ops c0 rs ρ₀ g₀ w₀ L p ρ a w) {i : Nat} {o : Oper} (ho : ops[i]? = some o) (hi : ¬ L i)
    (hr : ∀ e ∈ o.after.toList, Region.binds .any e = true → L e.on) :
    (∀ x ∈ o.op.operands, evalO (envL ops rs L) x = evalO (rs i).env x) ∧ Region.wanted o (yielded ops a.tmps) = Region.wanted o (yieldedA ops (rs i).env) := by
  have hl := fun {t : Nat} (ht : t ∈ looks ops o) => envL_looks hch hd ho hi I.closed hr I.bnd ht
  constructor
  · intro x hx
    cases x with
    | tmp t =>
      have : t ∈ looks ops o := by
        unfold looks
        refine List.mem_append_left _ ?_
        rw [List.mem_filterMap]
        exact ⟨.tmp t, by simpa using hx, rfl⟩
      simp only [evalO, List.getD, hl this]
    | _ => rfl
  · rw [← wanted_eq ops I.env]
    unfold Region.wanted
    cases hg : o.guard with
    | none => rfl
    | some gw =>
      obtain ⟨g, want⟩ := gw
      simp only
      congr 1
      unfold yieldedA
      cases hdst : (ops[g]?).bind (·.dst) with
      | none => rfl
      | some d =>
        have : d ∈ looks ops o := by
          unfold looks
          refine List.mem_append_right _ ?_
          rw [hg]; simp only [hdst]; simp
        simp only [Option.bind_some, hl this]
theorem Inv.wildsBefore {ρ₀ ρ : Ren} {g₀ : Nat → Option Blk} {w₀ w : World} {L : Nat → Prop} {p : Nat} {a : Act} (I : Inv ops c0 rs ρ₀ g₀ w₀ L p ρ a w) {i : Nat} {o : Oper} (ho : ops[i]? = some o)
    (hr : ∀ e ∈ o.after.toList, Region.binds .any e = true → L e.on) (hd : DrawFacts ops) (hi : ¬ L i) (hw : wild o.op = true) : p ≤ i ∧ ∀ j q, p ≤ j → j < i → ops[j]? = some q → wild q.op = false := by
  constructor
  · rcases Nat.lt_or_ge i p with q | q
    · exact absurd ((I.wl i o ho hw).2 q) hi
    · exact q
  · intro j q h1 h2 h3
    cases hq : wild q.op with
    | false => rfl
    | true =>
      have := anc_ready I.closed ho hr (hd.wilds j i q o h2 h3 ho hq hw)
      have := (I.wl j q h3 hq).1 this
      omega
theorem Inv.heapCanon (hch : Chain P call ops c0 rs) (hd : DrawFacts ops) (h0 : (rs 0).made = .leaf) {ρ₀ ρ : Ren} {g₀ : Nat → Option Blk} {w₀ w : World} {L : Nat → Prop} {p : Nat} {a : Act} (I : Inv ops c0 rs ρ₀ g₀ w₀ L p ρ a w) {i : Nat} (his : i ≤ ops.size)
    (hpi : p ≤ i) (hn : ∀ j q, p ≤ j → j < i → ops[j]? = some q → wild q.op = false) :
    (rs i).st.ctr = (rs p).st.ctr ∧ ∀ x, (rs i).st.heap.get x = if c0 + p ≤ x ∧ x < c0 + i then (rs ops.size).made.get x else (rs p).st.heap.get x :=
  heap_plain hch h0 I.junk i hpi his hn
theorem ready_spec {listed : Array Bool} {i : Nat} (h : i ∈ Region.ready .any ops listed) : ∃ o, ops[i]? = some o ∧ listed.getD i true = false ∧ ∀ e ∈ o.after.toList, Region.binds .any e = true → listed.getD e.on false = true := by
  unfold Region.ready at h
  rw [List.mem_filter, List.mem_range] at h
  obtain ⟨h1, h2⟩ := h
  obtain ⟨o, ho⟩ : ∃ o, ops[i]? = some o := ⟨_, Array.getElem?_eq_getElem h1⟩
  rw [ho] at h2
  simp only [Option.map_some, Option.getD_some, Bool.and_eq_true, Bool.not_eq_true'] at h2
  refine ⟨o, ho, h2.1, fun e he hb => ?_⟩
  have h3 := h2.2
  rw [← Array.all_toList] at h3
  have := List.all_eq_true.1 h3 e he
  simpa [hb] using this
theorem evLocal_ob {env : Env} {g g' : Nat → Option Blk} {nm : Nat} {op : Op} {v v' : Value} {ob ob' : Option Blk} (hr : reads op = true) (h : evLocal P env g nm op = some (v, ob)) (h' : evLocal P env g' nm op = some (v', ob')) : ob = ob' := by
  have none_ : ∀ {g : Nat → Option Blk} {v : Value} {ob : Option Blk}, allocs op = false → evLocal P env g nm op = some (v, ob) → ob = none := fun ha h => evLocal_noallocs ha h
  cases op <;> simp only [reads] at hr <;> (first | cases hr | skip)
  case load t x => rw [none_ rfl h, none_ rfl h']
  case slice t x lo hi mx => rw [none_ rfl h, none_ rfl h']
  case convert src dst x =>
    simp only [evLocal] at h h'
    split at h
    · rename_i vx hx
      simp only [hx] at h'
      have slot : ∀ {g : Nat → Option Blk} {v : Value} {ob : Option Blk}, evConv P g nm src dst vx = some (v, ob) → (∀ s, vx ≠ .string s) → ob = none := by
        intro g v ob h hn
        unfold evConv at h
        repeat' split at h
        all_goals first
          | (cases h; done)
          | (cases h; rfl)
          | (simp only [Option.map_eq_some_iff, Prod.mk.injEq] at h; obtain ⟨_, _, _, h⟩ := h; exact h.symm)
          | exact absurd rfl (hn _)
      by_cases hs : ∃ s, vx = .string s
      · obtain ⟨s, rfl⟩ := hs
        have : evConv P g nm src dst (.string s) = evConv P g' nm src dst (.string s) := by
          unfold evConv
          repeat' split
          all_goals first | rfl | simp_all
        rw [this, h'] at h; cases h; rfl
      · rw [slot h (fun s e => hs ⟨s, e⟩), slot h' (fun s e => hs ⟨s, e⟩)]
    · cases h
theorem Inv.next (hcall : CallOK P call) (hch : Chain P call ops c0 rs) (hd : DrawFacts ops) (h0 : (rs 0).made = .leaf) (hs0 : (rs 0).snaps = [(0, (rs 0).st.heap)]) (hheld : Held P ops c0 rs)
    {ρ₀ ρ : Ren} {g₀ : Nat → Option Blk} {w₀ w : World} {L : Nat → Prop} {p : Nat} {a : Act} (I : Inv ops c0 rs ρ₀ g₀ w₀ L p ρ a w) {i : Nat} {o : Oper} (ho : ops[i]? = some o) (hi : ¬ L i)
    (hr : ∀ e ∈ o.after.toList, Region.binds .any e = true → L e.on) {K : Act → World → Prop} {Q : Exit → Act → World → Prop}
    (k : ∀ p' ρ' a' w', Inv ops c0 rs ρ₀ g₀ w₀ (fun j => L j ∨ j = i) p' ρ' a' w' → K a' w') : wpOp P ops Q i K a w := by
  have his : i < ops.size := by
    rcases Nat.lt_or_ge i ops.size with q | q
    · exact q
    · rw [Array.getElem?_eq_none q] at ho; cases ho
  obtain ⟨look1, look2⟩ := I.look hch hd ho hi hr
  -- what holds of the new set
  have bnd' : ∀ j, (L j ∨ j = i) → j < ops.size := by rintro j (q | q); exact I.bnd j q; omega
  have closed' : ∀ (j : Nat) (q : Oper) (e : Edge), ops[j]? = some q → (L j ∨ j = i) → e ∈ q.after.toList → Region.binds .any e = true → (L e.on ∨ e.on = i) := by
    rintro j q e h1 (h2 | h2) h3 h4
    · exact Or.inl (I.closed j q e h1 h2 h3 h4)
    · subst h2; rw [ho] at h1; cases h1; exact Or.inl (hr e h3 h4)
  have wlLocal : wild o.op = false → ∀ (j : Nat) (q : Oper), ops[j]? = some q → wild q.op = true → ((L j ∨ j = i) ↔ j < p) := by
    intro hw j q h1 h2
    rw [← I.wl j q h1 h2]
    constructor
    · rintro (h3 | h3)
      · exact h3
      · subst h3; rw [ho] at h1; cases h1; rw [hw] at h2; cases h2
    · exact Or.inl
  have wlWild : wild o.op = true → ∀ (j : Nat) (q : Oper), ops[j]? = some q → wild q.op = true → ((L j ∨ j = i) ↔ j < i + 1) := by
    intro hw j q h1 h2
    have hb := I.wildsBefore ho hr hd hi hw
    constructor
    · rintro (h3 | h3)
      · have := (I.wl j q h1 h2).1 h3; omega
      · omega
    · intro h3
      by_cases e : j = i
      · exact Or.inr e
      · exact Or.inl (anc_ready I.closed ho hr (hd.wilds j i q o (by omega) h1 ho h2 hw))
  -- the memory behind a wild operation that has come, told for the new set
  have early : ∀ j, p ≤ j → j < i → wild o.op = true → (rs ops.size).made.get (c0 + j) ≠ none → L j := by
    intro j h1 h2 hw hm
    obtain ⟨q, hq⟩ : ∃ q, ops[j]? = some q := ⟨_, Array.getElem?_eq_getElem (by omega)⟩
    cases e : (rs ops.size).made.get (c0 + j) with
    | none => exact absurd e hm
    | some b => exact anc_ready I.closed ho hr (hd.allocs j i q o h2 hq ho (made_alloc hch h0 hq e) hw)
  unfold wpOp
  simp only [ho]
  rw [look2]
  rcases step_cases (hch.step i o ho) with ⟨h1, h2, h3, h4, h5⟩ | ⟨h1, hw, v, h2, h3, h4, h5⟩ | ⟨h1, hw, v, ob, h2, h3, h4, h5, h6, h7⟩
  · -- not wanted
    rw [h1]
    simp only [Bool.false_eq_true, if_false]
    have env' : ER ρ (envL ops rs (fun j => L j ∨ j = i)) (a.put o.dst undef).tmps := by
      rw [envL_put hch hd ho hi h2]; exact ER.put I.env o.dst .unit
    cases hw : wild o.op with
    | false =>
      refine k p ρ _ w ⟨bnd', I.pos, I.ple, wlLocal hw, closed', env', ?_, fun j hj hL => I.names j hj (fun q => hL (Or.inl q)), I.fresh, I.junk, I.ctr, by rw [Act.put_defers']; exact I.dfr⟩
      refine I.step.ext (fun _ => rfl) fun x => ?_
      unfold heapL
      by_cases q : c0 + p ≤ x ∧ x < c0 + ops.size
      · rw [if_pos q, if_pos q]
        by_cases e : x = c0 + i
        · subst e
          have hm : (rs ops.size).made.get (c0 + i) = none := by rw [made_final hch i his, h4]; exact made_before hch h0 i (by omega)
          simp [hm]
        · have : ((L (x - c0) ∨ x - c0 = i) ↔ L (x - c0)) := ⟨fun h => h.resolve_right (by omega), Or.inl⟩
          simp only [this]
      · rw [if_neg q, if_neg q]
    | true =>
      obtain ⟨hpi, hnw⟩ := I.wildsBefore ho hr hd hi hw
      obtain ⟨c1, c2⟩ := I.heapCanon hch hd h0 (by omega) hpi hnw
      refine k (i + 1) ρ _ w ⟨bnd', Or.inr ⟨i, o, rfl, ho, hw⟩, by omega, wlWild hw, closed', env', ?_, fun j hj hL => I.names j hj (fun q => hL (Or.inl q)), ?_, ?_, ?_, by rw [Act.put_defers']; exact I.dfr⟩
      · rw [h3, c1]
        refine I.step.ext (fun _ => rfl) fun x => ?_
        unfold heapL
        rw [h3]
        by_cases q1 : c0 + (i + 1) ≤ x ∧ x < c0 + ops.size
        · rw [if_pos q1, if_pos (by omega)]
          have : ((L (x - c0) ∨ x - c0 = i) ↔ L (x - c0)) := ⟨fun h => h.resolve_right (by omega), Or.inl⟩
          simp only [this]
        · rw [if_neg q1, c2 x]
          by_cases q2 : c0 + p ≤ x ∧ x < c0 + i
          · rw [if_pos q2, if_pos (by omega)]
            by_cases e : L (x - c0)
            · rw [if_pos e]
            · rw [if_neg e]
              cases hm : (rs ops.size).made.get x with
              | none => rfl
              | some b => exact absurd (early (x - c0) (by omega) (by omega) hw (by rw [show c0 + (x - c0) = x from by omega, hm]; simp)) e
          · rw [if_neg q2]
            by_cases q3 : c0 + p ≤ x ∧ x < c0 + ops.size
            · have : x = c0 + i := by omega
              subst this
              rw [if_pos q3, show c0 + i - c0 = i from by omega, if_neg hi]
              exact (I.junk i hpi his).symm
            · rw [if_neg q3]
      · intro b hb; rw [h3, c1] at hb; exact I.fresh b hb
      · intro j h6 h7; rw [h3, c2, if_neg (by omega)]; exact I.junk j (by omega) h7
      · rw [h3, c1]; exact I.ctr
  · -- a wild one
    rw [h1]
    simp only [if_true]
    refine Or.inl ?_
    obtain ⟨hpi, hnw⟩ := I.wildsBefore ho hr hd hi hw
    obtain ⟨c1, c2⟩ := I.heapCanon hch hd h0 (by omega) hpi hnw
    have sub : ∀ x b, (rs i).st.heap.get x = some b → heapL ops c0 rs L p x = some b := by
      intro x b hb
      rw [c2 x] at hb
      unfold heapL
      by_cases q2 : c0 + p ≤ x ∧ x < c0 + i
      · rw [if_pos q2] at hb
        have := early (x - c0) (by omega) (by omega) hw (by rw [show c0 + (x - c0) = x from by omega, hb]; simp)
        rw [if_pos (by omega), if_pos this]; exact hb
      · rw [if_neg q2] at hb
        by_cases q3 : c0 + p ≤ x ∧ x < c0 + ops.size
        · have := I.junk (x - c0) (by omega) (by omega)
          rw [show c0 + (x - c0) = x from by omega, hb] at this; cases this
        · rw [if_neg q3]; exact hb
    have hR := I.step.rel
    have hRs := hR.sub sub
    have hF : Fr ρ (rs i).st := fun b hb => I.fresh b (by rw [c1] at hb; exact hb)
    have hev : evWild P call (envL ops rs L) (rs i).st (c0 + i) o.op = some (v, (rs (i + 1)).st) := by rw [evWild_congr look1]; exact h2
    have hle := (wild_sound (P := P) hcall (o := o) hev hRs hF I.env (I.names i his hi) (K := fun _ _ => True) (Q := Q) (fun _ _ _ _ _ => trivial)).1
    refine (wild_sound (P := P) hcall (o := o) hev hRs hF I.env (I.names i his hi) ?_).2
    intro ρ' v' w' hv st
    have hnames : ∀ b, ¬ (b = c0 + i ∨ Nw (rs i).st (rs (i + 1)).st b) → ρ' b = ρ b := st.names
    -- blocks made ahead of their turn
    have extra : ∀ x b, c0 + (i + 1) ≤ x → x < c0 + ops.size → L (x - c0) → (rs ops.size).made.get x = some b → heapL ops c0 rs L p x = some b ∧ (rs i).st.heap.get x = none ∧ ∃ r, ρ x = some r ∧ ¬ foot ρ (rs i).st.heap.get r.B ∧ BR ρ' w' r b := by
      intro x b q1 q2 q3 q4
      have e1 : heapL ops c0 rs L p x = some b := by unfold heapL; rw [if_pos (by omega), if_pos q3]; exact q4
      have e2 : (rs i).st.heap.get x = none := by rw [c2, if_neg (by omega)]; have := I.junk (x - c0) (by omega) (by omega); rwa [show c0 + (x - c0) = x from by omega] at this
      obtain ⟨r, r1, r2⟩ := hR.live x b e1
      have r3 : ¬ foot ρ (rs i).st.heap.get r.B := by
        rintro ⟨y, c, r', f1, f2, f3⟩
        have := hR.inj _ _ _ _ _ _ (sub y c f1) e1 f2 r1 f3
        subst this; rw [e2] at f1; cases f1
      exact ⟨e1, e2, r, r1, r3, r2.mono st.le (st.old _ r2.lt r3)⟩
    have hL' : ∀ x, heapL ops c0 rs (fun j => L j ∨ j = i) (i + 1) x = if c0 + (i + 1) ≤ x ∧ x < c0 + ops.size ∧ L (x - c0) then (rs ops.size).made.get x else if c0 + (i + 1) ≤ x ∧ x < c0 + ops.size then none else (rs (i + 1)).st.heap.get x := by
      intro x
      unfold heapL
      by_cases q1 : c0 + (i + 1) ≤ x ∧ x < c0 + ops.size
      · have : ((L (x - c0) ∨ x - c0 = i) ↔ L (x - c0)) := ⟨fun h => h.resolve_right (by omega), Or.inl⟩
        by_cases e : L (x - c0)
        · rw [if_pos q1, if_pos (Or.inl e), if_pos ⟨q1.1, q1.2, e⟩]
        · rw [if_pos q1, if_neg (fun h => e (this.1 h)), if_neg (fun h => e h.2.2), if_pos q1]
      · rw [if_neg q1, if_neg (fun h => q1 ⟨h.1, h.2.1⟩), if_neg q1]
    have parts : ∀ x b, heapL ops c0 rs (fun j => L j ∨ j = i) (i + 1) x = some b → (c0 + (i + 1) ≤ x ∧ x < c0 + ops.size ∧ L (x - c0) ∧ (rs ops.size).made.get x = some b) ∨ (rs (i + 1)).st.heap.get x = some b := by
      intro x b hx
      rw [hL'] at hx
      split at hx
      · rename_i q; exact Or.inl ⟨q.1, q.2.1, q.2.2, hx⟩
      · split at hx
        · cases hx
        · exact Or.inr hx
    have rel' : R ρ' (heapL ops c0 rs (fun j => L j ∨ j = i) (i + 1)) w' := by
      refine ⟨?_, ?_, st.rel.lt⟩
      · intro x b hx
        rcases parts x b hx with ⟨q1, q2, q3, q4⟩ | q
        · obtain ⟨_, _, r, r1, _, r2⟩ := extra x b q1 q2 q3 q4
          exact ⟨r, st.le _ _ r1, r2⟩
        · exact st.rel.live x b q
      · intro b₁ b₂ x₁ x₂ r₁ r₂ g1 g2 e1 e2 eB
        rcases parts _ _ g1 with ⟨q1, q2, q3, q4⟩ | q
        · obtain ⟨f1, _, s1, f2, f3, f4⟩ := extra _ _ q1 q2 q3 q4
          rw [st.le _ _ f2] at e1; cases e1
          rcases parts _ _ g2 with ⟨t1, t2, t3, t4⟩ | t
          · obtain ⟨k1, _, s2, k2, k3, k4⟩ := extra _ _ t1 t2 t3 t4
            rw [st.le _ _ k2] at e2; cases e2
            exact hR.inj _ _ _ _ _ _ f1 k1 f2 k2 eB
          · rcases st.foot r₁.B ⟨_, _, _, t, e2, eB.symm⟩ with h | h
            · exact absurd h f3
            · have := hR.lt _ _ f2; omega
        · rcases parts _ _ g2 with ⟨t1, t2, t3, t4⟩ | t
          · obtain ⟨k1, _, s2, k2, k3, k4⟩ := extra _ _ t1 t2 t3 t4
            rw [st.le _ _ k2] at e2; cases e2
            rcases st.foot r₂.B ⟨_, _, _, q, e1, eB⟩ with h | h
            · exact absurd h k3
            · have := hR.lt _ _ k2; omega
          · exact st.rel.inj _ _ _ _ _ _ q t e1 e2 eB
    have footSub : ∀ B, foot ρ (rs i).st.heap.get B → foot ρ (heapL ops c0 rs L p) B := by
      rintro B ⟨x, b, r, f1, f2, f3⟩; exact ⟨x, b, r, sub x b f1, f2, f3⟩
    have hctr : (rs i).st.ctr ≤ (rs (i + 1)).st.ctr := hle
    have step' : Step ρ (heapL ops c0 rs L p) w ρ' (heapL ops c0 rs (fun j => L j ∨ j = i) (i + 1)) w' (fun b => b = c0 + i ∨ Nw (rs i).st (rs (i + 1)).st b) := by
      refine ⟨st.le, st.same, rel', fun B hB hf => st.old B hB (fun h => hf (footSub B h)), ?_, st.names, ?_⟩
      · rintro B ⟨x, b, r, f1, f2, f3⟩
        rcases parts x b f1 with ⟨q1, q2, q3, q4⟩ | q
        · obtain ⟨k1, _, s1, k2, _⟩ := extra _ _ q1 q2 q3 q4
          rw [st.le _ _ k2] at f2; cases f2
          exact Or.inl ⟨x, b, r, k1, k2, f3⟩
        · exact (st.foot B ⟨x, b, r, q, f2, f3⟩).imp (footSub B) id
      · intro x b hx
        rcases parts x b hx with ⟨q1, q2, q3, q4⟩ | q
        · obtain ⟨k1, _⟩ := extra _ _ q1 q2 q3 q4; exact Or.inr ⟨b, k1⟩
        · rcases st.dom x b q with h | ⟨y, h⟩
          · exact Or.inl h
          · exact Or.inr ⟨y, sub x y h⟩
    have hc := I.ctr
    refine k (i + 1) ρ' _ w' ⟨bnd', Or.inr ⟨i, o, rfl, ho, hw⟩, by omega, wlWild hw, closed', ?_, ?_, ?_, ?_, ?_, by omega, by rw [Act.put_defers']; exact I.dfr⟩
    · rw [envL_put hch hd ho hi h3]; exact ER.put (LR.mono st.le I.env) o.dst hv
    · refine I.step.trans step' ?_ ?_
      · rintro b ⟨q1, q2⟩; exact ⟨q1, by omega⟩
      · rintro b (q | q)
        · exact ⟨by omega, by omega⟩
        · exact ⟨by have := q.1; omega, q.2⟩
    · intro j hj hL
      rw [hnames]
      · exact I.names j hj (fun q => hL (Or.inl q))
      · rintro (q | q)
        · exact hL (Or.inr (by omega))
        · have := q.1; omega
    · intro b hb
      rw [hnames]
      · exact I.fresh b (by omega)
      · rintro (q | q)
        · omega
        · have := q.2; omega
    · intro j h6 h7
      cases hg : (rs (i + 1)).st.heap.get (c0 + j) with
      | none => rfl
      | some b =>
        rcases st.dom _ _ hg with (q | q) | ⟨y, q⟩
        · omega
        · have := q.1; omega
        · rw [c2, if_neg (by omega), I.junk j (by omega) h7] at q; cases q
  · -- one that reads at most, and makes one block at most
    rw [h1]
    simp only [if_true]
    refine Or.inl ?_
    have hR := I.step.rel
    -- it does the same as in the text's order
    have same : ∃ v₁ ob₁, evLocal P (envL ops rs L) (heapL ops c0 rs L p) (c0 + i) o.op = some (v₁, ob₁) ∧ ob₁ = ob ∧ putA (envL ops rs L) o.dst v₁ = putA (envL ops rs L) o.dst v := by
      have def_ : ∀ b, leads (envL ops rs L) o.op b → ρ b ≠ none := by
        rintro b ⟨x, hx, vx, hv, hb⟩
        have kv := evalO_sound I.env hv
        rcases hb with ⟨ad, rfl, rfl⟩ | ⟨ad, n, c, rfl, hn, rfl⟩
        · generalize a.eval x = y at kv
          cases kv with
          | ptr h => obtain ⟨r, r1, _⟩ := h; rw [r1]; simp
        · generalize a.eval x = y at kv
          cases kv with
          | slice h1 h2 h3 => obtain ⟨r, r1, _⟩ := h3 (by omega); rw [r1]; simp
      have own : ∀ b, ρ b ≠ none → c0 + p ≤ b → b < c0 + ops.size → L (b - c0) := by
        intro b hb q1 q2
        cases Classical.em (L (b - c0)) with
        | inl h => exact h
        | inr h =>
          have := I.names (b - c0) (by omega) h
          rw [show c0 + (b - c0) = b from by omega] at this; exact absurd this hb
      by_cases hrd : reads o.op = true
      · by_cases hcan : p ≤ i ∧ ∀ j q, p ≤ j → j < i → ops[j]? = some q → wild q.op = false
        · obtain ⟨c1, c2⟩ := I.heapCanon hch hd h0 (by omega) hcan.1 hcan.2
          refine ⟨v, ob, ?_, rfl, rfl⟩
          rw [← evLocal_congr (P := P) (g := (rs i).st.heap.get) (nm := c0 + i) look1] at h2
          refine evLocal_sub ?_ h2
          intro b blk hb hg
          rw [c2 b] at hg
          unfold heapL
          by_cases q : c0 + p ≤ b ∧ b < c0 + i
          · rw [if_pos q] at hg
            rw [if_pos (by omega), if_pos (own b (def_ b hb) q.1 (by omega))]; exact hg
          · rw [if_neg q] at hg
            by_cases q2 : c0 + p ≤ b ∧ b < c0 + ops.size
            · have := I.junk (b - c0) (by omega) (by omega)
              rw [show c0 + (b - c0) = b from by omega, hg] at this; cases this
            · rw [if_neg q2]; exact hg
        · -- told by the checks
          have hpair : (i, p) ∈ pairs ops := by
            unfold pairs
            simp only [List.mem_flatMap]
            refine ⟨(o, i), by rw [List.mem_zipIdx_iff_getElem?]; simpa using ho, ?_⟩
            simp only [hrd, if_true, List.mem_map, List.mem_filter]
            refine ⟨p, ⟨?_, ?_⟩, rfl⟩
            · rcases I.pos with q | ⟨w0, q, q1, q2, q3⟩
              · subst q; exact List.mem_cons_self ..
              · exact List.mem_cons_of_mem _ (List.mem_map.2 ⟨w0, mem_wilds q2 q3, q1.symm⟩)
            · rw [Bool.and_eq_true]
              constructor
              · cases hcp : canonP (wilds ops) i p with
                | false => rfl
                | true =>
                  exfalso; apply hcan
                  simp only [canonP, Bool.and_eq_true, decide_eq_true_eq, List.all_eq_true] at hcp
                  refine ⟨hcp.1, fun j q h8 h9 h10 => ?_⟩
                  cases hwj : wild q.op with
                  | false => rfl
                  | true => have := hcp.2 j (mem_wilds h10 hwj); simp at this; omega
              · unfold allowed
                rw [List.all_eq_true]
                intro w1 hw1
                obtain ⟨q, hq, hqw⟩ := of_mem_wilds hw1
                have hqs : w1 < ops.size := by
                  rcases Nat.lt_or_ge w1 ops.size with u | u
                  · exact u
                  · rw [Array.getElem?_eq_none u] at hq; cases hq
                by_cases u : w1 < p
                · rw [if_pos u]
                  cases ha : anc (masks ops.toList []) i w1 with
                  | false => rfl
                  | true => exact absurd (anc_closed I.closed i w1 ((I.wl w1 q hq hqw).2 u) hqs ha) hi
                · rw [if_neg u]
                  cases ha : anc (masks ops.toList []) w1 i with
                  | false => rfl
                  | true => exact absurd ((I.wl w1 q hq hqw).1 (anc_ready I.closed ho hr ha)) u
          have hb := hheld _ hpair
          -- the slots that it looks at stand at the end as they stood
          have fin : ∀ t, t ∈ looks ops o → (rs ops.size).env[t]? = (rs i).env[t]? := by
            intro t ht
            refine env_keep hch t i ops.size (by omega) (Nat.le_refl _) (fun j q h8 h9 h10 h11 => ?_)
            by_cases e : j = i
            · subst e; rw [ho] at h10; cases h10; exact hd.own j o t ho h11 ht
            · exact hd.readC i j o q t (by omega) ho h10 h11 hrd ht
          have finO : ∀ x ∈ o.op.operands, evalO (rs ops.size).env x = evalO (envL ops rs L) x := by
            intro x hx
            rw [look1 x hx]
            cases x with
            | tmp t =>
              have : t ∈ looks ops o := by
                unfold looks
                refine List.mem_append_left _ ?_
                rw [List.mem_filterMap]
                exact ⟨.tmp t, by simpa using hx, rfl⟩
              simp only [evalO, List.getD, fin t this]
            | _ => rfl
          have finW : Region.wanted o (yieldedA ops (rs ops.size).env) = true := by
            rw [← h1]
            unfold Region.wanted
            cases hgd : o.guard with
            | none => rfl
            | some gw =>
              obtain ⟨gg, want⟩ := gw
              simp only
              congr 1
              unfold yieldedA
              cases hdst : (ops[gg]?).bind (·.dst) with
              | none => rfl
              | some d =>
                have : d ∈ looks ops o := by
                  unfold looks
                  refine List.mem_append_right _ ?_
                  rw [hgd]; simp only [hdst]; simp
                simp only [Option.bind_some, fin d this]
          have hheap : heapAt c0 ops.size (rs ops.size) p = fun x => if c0 + p ≤ x ∧ x < c0 + ops.size then (rs ops.size).made.get x else (rs p).st.heap.get x := by
            unfold heapAt
            rw [snaps_find hch ops.size (Nat.le_refl _) hs0 p I.ple I.pos]
          unfold pairB at hb
          simp only [ho, finW, if_true] at hb
          cases hev : evLocal P (rs ops.size).env (heapAt c0 ops.size (rs ops.size) p) (c0 + i) o.op with
          | none => rw [hev] at hb; cases hb
          | some vo =>
            obtain ⟨v2, ob2⟩ := vo
            rw [hev] at hb
            simp only at hb
            rw [evLocal_congr finO] at hev
            have h2' := h2
            rw [← evLocal_congr (P := P) (g := (rs i).st.heap.get) (nm := c0 + i) look1] at h2'
            have hob := evLocal_ob hrd h2' hev
            subst hob
            refine ⟨v2, ob, ?_, rfl, ?_⟩
            · refine evLocal_sub ?_ hev
              intro b blk hl hg
              rw [hheap] at hg
              simp only at hg
              unfold heapL
              by_cases q : c0 + p ≤ b ∧ b < c0 + ops.size
              · rw [if_pos q] at hg
                rw [if_pos q, if_pos (own b (def_ b hl) q.1 q.2)]; exact hg
              · rw [if_neg q] at hg ⊢; exact hg
            · cases hdd : o.dst with
              | none => rfl
              | some d =>
                simp only [hdd] at hb
                have hk := env_keep hch d (i + 1) ops.size (by omega) (Nat.le_refl _) (fun j q h8 h9 h10 => hd.uniq i j o q d ho h10 (by omega) hdd)
                rw [h3, hdd] at hk
                by_cases hlt : d < (rs i).env.length
                · have : (rs ops.size).env[d]? = some v := by rw [hk]; simp [putA, hlt]
                  rw [this] at hb
                  simp only at hb
                  rw [sameV_eq hb]
                · have hl2 := env_length hch i (by omega)
                  have : (envL ops rs L).length = (rs 0).env.length := by simp [envL]
                  simp only [putA]
                  have hle : (rs 0).env.length ≤ d := by rw [← hl2]; exact Nat.le_of_not_lt hlt
                  rw [List.set_eq_of_length_le (by rw [this]; exact hle), List.set_eq_of_length_le (by rw [this]; exact hle)]
      · have hrd' : reads o.op = false := by simpa using hrd
        refine ⟨v, ob, ?_, rfl, rfl⟩
        rw [evLocal_congr look1, evLocal_noreads hrd']; exact h2
    obtain ⟨v₁, ob₁, e1, rfl, e3⟩ := same
    obtain ⟨v', w', ρ', p1, p2, p3⟩ := local_sound (P := P) (o := o) (w := w) e1 hR I.env (I.names i his hi)
    unfold Oper.wp
    rw [p1]
    have hm : (rs ops.size).made.get (c0 + i) = ob₁ := by
      rw [made_final hch i his, h7]
      cases ob₁ with
      | none => exact made_before hch h0 i (by omega)
      | some b => simp [gput]
    have hpi : ob₁ ≠ none → p ≤ i := by
      intro hne
      rcases I.pos with q | ⟨w0, q, q1, q2, q3⟩
      · omega
      · rcases Nat.lt_or_ge i p with t | t
        · have hal : allocs o.op = true := by
            cases e : ob₁ with
            | none => exact absurd e hne
            | some b => exact made_alloc hch h0 ho (hm.trans e)
          have hlt : i < w0 := by
            rcases Nat.lt_or_ge i w0 with u | u
            · exact u
            · have : i = w0 := by omega
              subst this; rw [ho] at q2; cases q2; rw [hw] at q3; cases q3
          have := hd.allocs i w0 o q hlt ho q2 hal q3
          have hw0 : w0 < ops.size := by have := I.ple; omega
          exact absurd (anc_closed I.closed i w0 ((I.wl w0 q q2 q3).2 (by omega)) hw0 this) hi
        · exact t
    have hnone : heapL ops c0 rs L p (c0 + i) = none := by
      cases e : heapL ops c0 rs L p (c0 + i) with
      | none => rfl
      | some b => obtain ⟨r, r1, _⟩ := hR.live _ _ e; rw [I.names i his hi] at r1; cases r1
    have st := Step.grow hR hnone p3
    have hg : ∀ x, gput (heapL ops c0 rs L p) (c0 + i) ob₁ x = heapL ops c0 rs (fun j => L j ∨ j = i) p x := by
      intro x
      unfold heapL
      by_cases e : x = c0 + i
      · subst e
        rw [show c0 + i - c0 = i from by omega]
        cases hob : ob₁ with
        | none =>
          rw [hob] at hm
          show heapL ops c0 rs L p (c0 + i) = _
          rw [hnone]
          by_cases q : c0 + p ≤ c0 + i ∧ c0 + i < c0 + ops.size
          · rw [if_pos q, if_pos (Or.inr rfl), hm]
          · rw [if_neg q]
            unfold heapL at hnone
            rw [if_neg q] at hnone; exact hnone.symm
        | some b =>
          have := hpi (by rw [hob]; simp)
          rw [if_pos (by omega), if_pos (Or.inr rfl), hm, hob]; simp [gput]
      · have e' : gput (fun x => if c0 + p ≤ x ∧ x < c0 + ops.size then (if L (x - c0) then (rs ops.size).made.get x else none) else (rs p).st.heap.get x) (c0 + i) ob₁ x =
            (if c0 + p ≤ x ∧ x < c0 + ops.size then (if L (x - c0) then (rs ops.size).made.get x else none) else (rs p).st.heap.get x) := by cases ob₁ <;> simp [gput, e]
        refine Eq.trans ?_ (e'.trans ?_)
        · rfl
        · by_cases q : c0 + p ≤ x ∧ x < c0 + ops.size
          · have : ((L (x - c0) ∨ x - c0 = i) ↔ L (x - c0)) := ⟨fun h => h.resolve_right (by omega), Or.inl⟩
            rw [if_pos q, if_pos q]; simp only [this]
          · rw [if_neg q, if_neg q]
    refine k p ρ' _ w' ⟨bnd', I.pos, I.ple, wlLocal hw, closed', ?_, ?_, ?_, ?_, I.junk, I.ctr, by rw [Act.put_defers']; exact I.dfr⟩
    · rw [envL_put hch hd ho hi h3, ← e3]; exact ER.put (LR.mono st.le I.env) o.dst p2
    · refine I.step.trans (st.ext (fun _ => rfl) hg) (fun b q => q) ?_
      intro b hb; subst hb; exact ⟨by omega, by have := I.ctr; omega⟩
    · intro j hj hL
      rw [p3.other _ (fun e => hL (Or.inr (by omega)))]
      exact I.names j hj (fun q => hL (Or.inl q))
    · intro b hb
      rw [p3.other _ (fun e => by have := I.ctr; omega)]
      exact I.fresh b hb
theorem Inv.last (hch : Chain P call ops c0 rs) (hd : DrawFacts ops) (h0 : (rs 0).made = .leaf) {ρ₀ ρ : Ren} {g₀ : Nat → Option Blk} {w₀ w : World} {L : Nat → Prop} {p : Nat} {a : Act} (I : Inv ops c0 rs ρ₀ g₀ w₀ L p ρ a w)
    (hall : ∀ j, j < ops.size → L j) : Step ρ₀ g₀ w₀ ρ (rs ops.size).st.heap.get w (fun b => c0 ≤ b ∧ b < (rs ops.size).st.ctr) ∧ ER ρ (rs ops.size).env a.tmps := by
  have hn : ∀ j q, p ≤ j → j < ops.size → ops[j]? = some q → wild q.op = false := by
    intro j q h1 h2 h3
    cases e : wild q.op with
    | false => rfl
    | true => have := (I.wl j q h3 e).1 (hall j h2); omega
  obtain ⟨c1, c2⟩ := I.heapCanon hch hd h0 (Nat.le_refl _) I.ple hn
  constructor
  · rw [c1]
    refine I.step.ext (fun _ => rfl) fun x => ?_
    rw [c2 x]
    unfold heapL
    by_cases q : c0 + p ≤ x ∧ x < c0 + ops.size
    · rw [if_pos q, if_pos q, if_pos (hall _ (by omega))]
    · rw [if_neg q, if_neg q]
  · have : envL ops rs L = (rs ops.size).env := by
      apply List.ext_getElem?
      intro t
      have hl := env_length hch ops.size (Nat.le_refl _)
      rw [envL_get?]
      by_cases hlt : t < (rs 0).env.length
      · rw [if_pos hlt]
        unfold envAt
        split
        · simp only [List.getD, List.getElem?_eq_getElem (show t < (rs ops.size).env.length by rw [hl]; exact hlt), Option.getD_some]
        · rename_i hw
          rw [env_keep hch t 0 ops.size (Nat.zero_le _) (Nat.le_refl _) (fun j q h1 h2 h3 h4 => hw ⟨j, q, hall j h2, h3, h4⟩)]
          simp only [List.getD, List.getElem?_eq_getElem hlt, Option.getD_some]
      · rw [if_neg hlt, List.getElem?_eq_none (by rw [hl]; exact Nat.le_of_not_lt hlt)]
    rw [← this]; exact I.env
theorem ready_nil {listed : Array Bool} (hd : DrawFacts ops) (hsz : listed.size = ops.size) (h : Region.ready .any ops listed = []) : ∀ j, j < ops.size → listed.getD j false = true := by
  intro j
  induction j using Nat.strongRecOn with
  | _ j ih =>
    intro hj
    cases e : listed.getD j false with
    | true => rfl
    | false =>
      exfalso
      have : j ∈ Region.ready .any ops listed := by
        unfold Region.ready
        rw [List.mem_filter, List.mem_range]
        refine ⟨hj, ?_⟩
        obtain ⟨o, ho⟩ : ∃ o, ops[j]? = some o := ⟨_, Array.getElem?_eq_getElem hj⟩
        rw [ho]
        have e' : listed.getD j true = false := by
          have hl : j < listed.size := by omega
          simp only [Array.getD_eq_getD_getElem?, Array.getElem?_eq_getElem hl, Option.getD_some] at e ⊢; exact e
        simp only [e', Option.map_some, Option.getD_some, Bool.not_false, Bool.true_and]
        rw [← Array.all_toList, List.all_eq_true]
        intro ed hed
        cases hb : Region.binds .any ed with
        | false => rfl
        | true =>
          have hlt := hd.edges j o ho ed hed hb
          simp [ih ed.on hlt (by omega)]
      rw [h] at this; cases this
theorem any_sound (hcall : CallOK P call) (hch : Chain P call ops c0 rs) (hd : DrawFacts ops) (h0 : (rs 0).made = .leaf) (hs0 : (rs 0).snaps = [(0, (rs 0).st.heap)]) (hheld : Held P ops c0 rs)
    {ρ₀ : Ren} {g₀ : Nat → Option Blk} {w₀ : World} {Q : Exit → Act → World → Prop}
    (k : ∀ ρ a w, Step ρ₀ g₀ w₀ ρ (rs ops.size).st.heap.get w (fun b => c0 ≤ b ∧ b < (rs ops.size).st.ctr) → ER ρ (rs ops.size).env a.tmps → a.defers = [] → Q .normal a w) :
    ∀ (fuel : Nat) (listed : Array Bool) (L : Nat → Prop) (p : Nat) (ρ : Ren) (a : Act) (w : World), listed.size = ops.size → (∀ j, L j ↔ listed.getD j false = true) → (listed.toList.countP (! ·)) ≤ fuel →
      Inv ops c0 rs ρ₀ g₀ w₀ L p ρ a w → wpAny P .any ops Q fuel listed a w := by
  have fin : ∀ (listed : Array Bool) (L : Nat → Prop) (p : Nat) (ρ : Ren) (a : Act) (w : World), listed.size = ops.size → (∀ j, L j ↔ listed.getD j false = true) → Region.ready .any ops listed = [] →
      Inv ops c0 rs ρ₀ g₀ w₀ L p ρ a w → Q .normal a w := by
    intro listed L p ρ a w hsz hL hr I
    obtain ⟨h1, h2⟩ := I.last hch hd h0 (fun j hj => (hL j).2 (ready_nil hd hsz hr j hj))
    exact k ρ a w h1 h2 I.dfr
  intro fuel
  induction fuel with
  | zero =>
    intro listed L p ρ a w hsz hL hcnt I
    have hr : Region.ready .any ops listed = [] := by
      cases e : Region.ready .any ops listed with
      | nil => rfl
      | cons i _ =>
        obtain ⟨o, ho, h1, _⟩ := ready_spec (ops := ops) (listed := listed) (i := i) (by rw [e]; exact List.mem_cons_self ..)
        have hi : i < listed.size := by
          rcases Nat.lt_or_ge i listed.size with q | q
          · exact q
          · rw [Array.getElem?_eq_none (by omega)] at ho; cases ho
        have : 0 < listed.toList.countP (! ·) := by
          rw [List.countP_pos_iff]
          refine ⟨listed[i], by simp, ?_⟩
          simp only [Array.getD_eq_getD_getElem?, Array.getElem?_eq_getElem hi, Option.getD_some] at h1
          simp [h1]
        omega
    exact ⟨hr, fin listed L p ρ a w hsz hL hr I⟩
  | succ fuel ih =>
    intro listed L p ρ a w hsz hL hcnt I
    refine ⟨fun hr => fin listed L p ρ a w hsz hL hr I, fun i hi => ?_⟩
    obtain ⟨o, ho, h1, h2⟩ := ready_spec hi
    have his : i < listed.size := by
      rcases Nat.lt_or_ge i listed.size with q | q
      · exact q
      · rw [Array.getElem?_eq_none (by omega)] at ho; cases ho
    have h1' : listed.getD i false = false := by
      simp only [Array.getD_eq_getD_getElem?, Array.getElem?_eq_getElem his, Option.getD_some] at h1 ⊢; exact h1
    refine I.next hcall hch hd h0 hs0 hheld ho (by rw [hL, h1']; simp) (fun e he hb => (hL _).2 (h2 e he hb)) ?_
    intro p' ρ' a' w' I'
    refine ih (listed.setIfInBounds i true) _ p' ρ' a' w' (by simp [hsz]) ?_ ?_ I'
    · intro j
      rw [hL]
      simp only [Array.getD_eq_getD_getElem?, Array.getElem?_setIfInBounds]
      by_cases e : i = j
      · subst e; simp [his]
      · simp [e, Ne.symm e]
    · have hc : ∀ (l : List Bool) (i : Nat), l[i]? = some false → (l.set i true).countP (! ·) + 1 = l.countP (! ·) := by
        intro l
        induction l with
        | nil => intro i h; simp at h
        | cons x l ihl =>
          intro i h
          cases i with
          | zero => simp at h; subst h; simp
          | succ i =>
            have := ihl i (by simpa using h)
            simp only [List.set_cons_succ, List.countP_cons]; omega
      have := hc listed.toList i (by
        simp only [Array.getD_eq_getD_getElem?, Array.getElem?_eq_getElem his, Option.getD_some] at h1
        simp [his, h1])
      rw [Array.toList_setIfInBounds]; omega
end
theorem region_ok {P : Program} {call : CallF} (hm : P.follows .mixedOrders = true) (hcall : CallOK P call) : RegionOK P call := by
  intro id ops draw env env' s s' h
  cases draw with
  | false => exact region_plain hcall id ops env env' s s' h
  | true =>
    unfold evRegion at h
    split at h
    · rename_i r hr
      simp only [if_true] at h
      split at h
      · rename_i hchk
        simp only [Option.some.injEq, Prod.mk.injEq] at h
        obtain ⟨rfl, rfl⟩ := h
        rw [Bool.and_eq_true] at hchk
        obtain ⟨hdr, hprs⟩ := hchk
        have hc := evOps_ctr (fun f args s v s' hh => (hcall f args s v s' hh).1) _ _ _ _ hr
        simp only at hc
        refine ⟨by omega, fun ρ a w hR hE hF ha => ?_⟩
        obtain ⟨rs, e1, e2, e3⟩ := chain_of (P := P) (call := call) (ops := ops) (c0 := s.ctr) ops.toList 0 _ r rfl (Nat.zero_le _) hr
        have hch : Chain P call ops s.ctr rs := ⟨fun i o ho => e3 i o (Nat.zero_le _) ho⟩
        have hd := drawFacts hdr
        refine wp_region_any hm ?_
        have hcnt : ((Array.replicate ops.size false).toList.countP (! ·)) ≤ ops.size := by
          have := List.countP_le_length (p := fun b : Bool => !b) (l := (Array.replicate ops.size false).toList)
          simpa using this
        refine any_sound (P := P) hcall hch hd (by rw [e1]) (by rw [e1]) ?_ (ρ₀ := ρ) (g₀ := s.heap.get) (w₀ := w) ?_ ops.size (Array.replicate ops.size false) (fun _ => False) 0 ρ a _ (by simp) ?_ hcnt ?_
        · intro q hq
          rw [e2]
          exact List.all_eq_true.1 hprs q hq
        · intro ρ' a' w' st f1 f2
          rw [e2] at st f1
          exact ⟨rfl, ρ', st.imp (fun b hb => ⟨hb.1, hb.2⟩), f1, f2⟩
        · intro j; simp [Array.getD_eq_getD_getElem?, Array.getElem?_replicate]
          split <;> rfl
        · have hst : (rs 0).st = { s with ctr := s.ctr + ops.size } := by rw [e1]
          have henv : (rs 0).env = env := by rw [e1]
          have junk : ∀ j, (rs 0).st.heap.get (s.ctr + j) = none := by
            intro j
            rw [hst]
            cases e : s.heap.get (s.ctr + j) with
            | none => rfl
            | some b => obtain ⟨q, q1, _⟩ := hR.live _ _ e; rw [hF _ (by omega)] at q1; cases q1
          refine ⟨fun j hj => hj.elim, Or.inl rfl, Nat.zero_le _, fun j o _ _ => ⟨fun h => h.elim, fun h => by omega⟩, fun j o e _ h => h.elim, ?_, ?_, fun j hj _ => hF _ (by omega), fun b hb => hF b (by rw [hst] at hb; simp only at hb; omega), fun j _ _ => junk j, by rw [hst]; exact Nat.le_refl _, ha⟩
          · have : envL ops rs (fun _ => False) = env := by
              apply List.ext_getElem?
              intro t
              rw [envL_get?, henv]
              by_cases hlt : t < env.length
              · rw [if_pos hlt]
                unfold envAt
                rw [if_neg (by rintro ⟨_, _, h, _⟩; exact h), henv]
                simp only [List.getD, List.getElem?_eq_getElem hlt, Option.getD_some]
              · rw [if_neg hlt, List.getElem?_eq_none (by omega)]
            rw [this]; exact hE
          · have hs : Step ρ s.heap.get w ρ s.heap.get ({ w with drawn := w.drawn + 1 } : World) (fun b => s.ctr ≤ b ∧ b < (rs 0).st.ctr) :=
              ⟨Ren.le_refl _, ⟨rfl, rfl, rfl, Nat.le_refl _⟩, ⟨fun b blk hb => hR.live b blk hb, hR.inj, hR.lt⟩, fun _ _ _ => rfl, fun _ h => Or.inl h, fun _ _ => rfl, fun b blk h => Or.inr ⟨blk, h⟩⟩
            refine hs.ext (fun _ => rfl) fun x => ?_
            unfold heapL
            by_cases q : s.ctr + 0 ≤ x ∧ x < s.ctr + ops.size
            · rw [if_pos q, if_neg (fun h => h)]
              have := junk (x - s.ctr)
              rw [show s.ctr + (x - s.ctr) = x from by omega, hst] at this; exact this
            · rw [if_neg q, hst]
      · cases h
    · cases h
theorem sound {P : Program} (hm : P.follows .mixedOrders = true) (hname : ∀ (f : Nat) (fn : Func), P.funcs[f]? = some fn → fn.body.isNone = false → (fn.name == "runtime.NumGoroutine") = false)
    (ov : OvT)
    (hov : ∀ f g, ov f = some g → ∀ args s v s', g args s = some (v, s') → s.ctr ≤ s'.ctr ∧ ∀ ρ w (args' : Array Value), R ρ s.heap.get w → Fr ρ s → LR ρ args args'.toList →
      Calls P f args' w fun e w' => ∃ ρ' v', e = .returned v' ∧ VR ρ' v v' ∧ Step ρ s.heap.get w ρ' s'.heap.get w' (Nw s s')) (n : Nat) : CallOK P (evCall P ov n) :=
  call_sound hname (fun _ hc => region_ok hm hc) ov hov n
end Go.AE
