/- Part 16 (a part of the proof of UnstreamSteps; no condition). -/
import Derived.Test.YtegjkhgaoabfcaaGreatWh
import Derived.Test.YtegjkhgaoabfcaaGreatWo
set_option linter.unusedSimpArgs false
set_option linter.unusedVariables false
set_option maxRecDepth 1000000
namespace Go.Proofs.YtegjkhgaoabfcaaGreat
open Go.AE
def runE : Nat → Un × List Nat → List Bool → Nat → Option (Except Nat ((Un × List Nat) × Nat))
  | 0, _, _, _ => none
  | f + 1, s, l, n => match withFin s (l.drop n) with
    | true => some (.ok (s, n))
    | false => match withStep s (l.drop n) with
      | .error e => some (.error e)
      | .ok (s', k) => runE f s' l (n + k)
theorem runE_ok : ∀ (f : Nat) {s : Un × List Nat} {l : List Bool} {n : Nat} {r : Except Nat ((Un × List Nat) × Nat)}, runE f s l n = some r → Runs withStep withFin l s n r
  | 0, _, _, _, _, h => by cases h
  | f + 1, s, l, n, r, h => by
    simp only [runE] at h
    cases hf : withFin s (l.drop n) with
    | true => rw [hf] at h; cases h; exact .stop hf
    | false =>
      rw [hf] at h; simp only at h
      cases hs : withStep s (l.drop n) with
      | error e => rw [hs] at h; cases h; exact .fail hf hs
      | ok y => obtain ⟨s', k⟩ := y; rw [hs] at h; exact .more hf hs (runE_ok f h)
def runIs (f unit : Nat) (l : List Bool) (e : Nat) (t : List Nat) : Bool := match runE f (Un.new unit, []) l 0 with
  | some (.ok (p, _)) => Nat.beq e 0 && decide (p.2 = t)
  | some (.error e') => Nat.beq e e' && t.isEmpty
  | none => false
def TellsW (unit : Nat) (l : List Bool) (e : Nat) (t : List Nat) : Prop := ∃ r, WithR unit l r ∧ match r with
  | .ok (p, _) => p.2 = t ∧ e = 0
  | .error e' => e = e' ∧ t = []
theorem runIs_ok {f unit e : Nat} {l : List Bool} {t : List Nat} (h : runIs f unit l e t = true) : TellsW unit l e t := by
  unfold runIs at h
  split at h
  · rename_i p n hr
    simp only [Bool.and_eq_true, decide_eq_true_eq] at h
    exact ⟨_, runE_ok f hr, h.2, Nat.eq_of_beq_eq_true h.1⟩
  · rename_i e' hr
    simp only [Bool.and_eq_true, List.isEmpty_iff] at h
    exact ⟨_, runE_ok f hr, Nat.eq_of_beq_eq_true h.1, h.2⟩
  · cases h
theorem eqE : ((txt []).toList == (⟨#[]⟩ : ByteArray).toList) = true := txt_eq (a := []) (b := []) (by simp) (by simp)
theorem eqAB : ((txt [97, 98]).toList == (⟨#[97, 98]⟩ : ByteArray).toList) = true := txt_eq (a := [97, 98]) (b := [97, 98]) (by decide) (by decide)
theorem none1 : TellsW 100000 (bitsL []) 24 [] := runIs_ok (f := 10) (by kernel_rfl)
theorem none2 : TellsW 100000 (bitsL [66, 90, 120]) 20 [] := runIs_ok (f := 10) (by kernel_rfl)
theorem none3 : TellsW 100000 (bitsL [66, 90, 104, 57, 23, 114, 69, 56, 80, 144, 0, 0, 0, 0]) 0 [] := runIs_ok (f := 20) (by kernel_rfl)
theorem none4 : TellsW 100000 (bitsL [66, 90, 104, 49, 49, 65, 89, 38, 83, 89, 233, 147, 253, 205, 0, 0, 0, 1, 0, 48, 0, 32, 0, 33, 0, 130, 177, 119, 36, 83, 133, 9, 14, 153, 63, 220, 208]) 0 [97, 98] := runIs_ok (f := 400) (by kernel_rfl)
section
variable {ov : OvT} (H : OvB ov)
include H
theorem withE_cr {h : Heap} {c e : Nat} {s : ByteArray} {t : List Nat} (hs : s.size ≤ 1000) (hT : TellsW 100000 (bitsL s.data.toList) e t) :
    CR Tryz.prog ov 12 [iv 100000, .string s] ⟨h, c⟩ (fun v st => v = .tuple #[.string (txt t), nv e] ∧ Keep [] h c st) := by
  refine (with_cr H hs).mono ?_
  rintro v st ⟨q, k⟩
  rw [if_pos (by omega)] at q
  obtain ⟨r, hr, hv⟩ := q
  obtain ⟨r', hr', h2⟩ := hT
  have e1 : r = r' := Runs.det hr hr'
  subst e1
  refine ⟨?_, k⟩
  cases r with
  | ok y => obtain ⟨p, n⟩ := y; rw [hv, h2.1, h2.2]
  | error e' => rw [hv, h2.1, h2.2]; rfl
theorem dec_cr {h : Heap} {c e : Nat} {s : ByteArray} {t : List Nat} (hs : s.size ≤ 1000) (hT : TellsW 100000 (bitsL s.data.toList) e t) :
    CR Tryz.prog ov 15 [.string s] ⟨h, c⟩ (fun v st => v = .tuple #[.string (txt t), nv e] ∧ Keep [] h c st) := by
  refine e_1 Tryz.func15 rfl (H.h _ (by decide)) Tryz.ntmps15 (by decide) ?_
  intro env U
  refine sg 2 J (qA U J (qA U J (nK (sg 6 J (qM U J (qC U J (CR.mono (withE_cr H hs hT) ?_)))))))
  rintro v ⟨hh1, cc1⟩ ⟨rfl, hK⟩
  refine qE U J J (qE U J J (qA U J (qA U J (nK (rR (f_2 U J (.inl J) J J ?_))))))
  exact ⟨rfl, (hK.base (by omega)).up (by have := hK.1; dsimp only at *; omega)⟩
theorem none_cr {h : Heap} {c : Nat} (h11 : ov 11 = none) (h33 : ∀ (h : Heap) (c : Nat), CR Tryz.prog ov 33 [nv 1, nv 100000, .string ⟨#[97, 98]⟩] ⟨h, c⟩ (fun v st => v = .string ⟨#[66, 90, 104, 49, 49, 65, 89, 38, 83, 89, 233, 147, 253, 205, 0, 0, 0, 1, 0, 48, 0, 32, 0, 33, 0, 130, 177, 119, 36, 83, 133, 9, 14, 153, 63, 220, 208]⟩ ∧ Keep [] h c st)) :
    CR Tryz.prog ov 11 [] ⟨h, c⟩ (fun v st => v = .bool true) := by
  refine e_0 Tryz.func11 J h11 Tryz.ntmps11 ?_
  intro env U
  refine sg 1 J (qA U J (nK (sg 6 J (qC U J (CR.mono (dec_cr H (s := ⟨#[]⟩) (by decide) none1) ?_)))))
  rintro v ⟨hh1, cc1⟩ ⟨rfl, hK1⟩
  refine qM U J (qE U J J (qE U J J (qA U J (qA U J (nK (sg 6 J (qC U J (CR.mono (dec_cr H (s := ⟨#[66, 90, 120]⟩) (by decide) none2) ?_))))))))
  rintro v ⟨hh2, cc2⟩ ⟨rfl, hK2⟩
  refine qM U J (qE U J J (qE U J J (qA U J (qA U J (nK (sg 6 J (qC U J (CR.mono (dec_cr H (s := ⟨#[66, 90, 104, 57, 23, 114, 69, 56, 80, 144, 0, 0, 0, 0]⟩) (by decide) none3) ?_))))))))
  rintro v ⟨hh3, cc3⟩ ⟨rfl, hK3⟩
  refine qM U J (qE U J J (qE U J J (qA U J (qA U J (nK (sg 7 J (qC U J (CR.mono (h33 _ _) ?_))))))))
  rintro v ⟨hh4, cc4⟩ ⟨rfl, hK4⟩
  refine qC U J (CR.mono (dec_cr H (s := ⟨#[66, 90, 104, 49, 49, 65, 89, 38, 83, 89, 233, 147, 253, 205, 0, 0, 0, 1, 0, 48, 0, 32, 0, 33, 0, 130, 177, 119, 36, 83, 133, 9, 14, 153, 63, 220, 208]⟩) (by decide) none4) ?_)
  rintro v ⟨hh5, cc5⟩ ⟨rfl, hK5⟩
  refine qM U J (qE U J J (qE U J J (qA U J (qA U J (nK (sg 23 J (qM U J (qB U J J J (qM U J (qG U J J J J (qM U J (qG U J J J J (qB U J J J (qQ U J J J (if_pos J) (qM U J (qG U J J J J (qM U J (qG U J J J J (qB U J J J (qQ U J J J (if_pos J) (qM U J ?_)))))))))))))))))))))
  refine qG U J J J J (qM U J (qG U J J J J (qB U J J J (qQ U J J J (if_pos J) (qM U J (qG U J J J eqE (qM U J (qG U J J J eqE (qB U J J J (qQ U J J J (if_pos eqE) (qM U J (qG U J J J J (qM U J (qG U J J J J (qB U J J J (qQ U J J J (if_pos J) (qA U J (nK (rR (f_1 U J (.inl J) J ?_))))))))))))))))))))
  exact congrArg Value.bool eqAB
theorem withT_cr {h : Heap} {c n : Nat} {s : ByteArray} (hs : s.size ≤ 1000) (hn : 24 ≤ n ∧ n ≤ 100000) :
    CR Tryz.prog ov 12 [nv n, .string s] ⟨h, c⟩ (fun v st => ∃ (t : List Nat) (e : Nat), v = .tuple #[.string (txt t), nv e] ∧ TellsW n (bitsL s.data.toList) e t ∧ Keep [] h c st) := by
  refine (with_cr H (unit := (n : Int)) hs).mono ?_
  rintro v st ⟨q, k⟩
  rw [if_pos (by omega)] at q
  obtain ⟨r, hr, hv⟩ := q
  rw [Int.toNat_natCast] at hr
  cases r with
  | ok y => obtain ⟨p, m⟩ := y; exact ⟨p.2, 0, hv, ⟨_, hr, rfl, rfl⟩, k⟩
  | error e => exact ⟨[], e, hv, ⟨_, hr, rfl, rfl⟩, k⟩
theorem rWithT_cr {h : Heap} {c n : Nat} {s : ByteArray} (hs : s.size ≤ 1000) (hn : 24 ≤ n ∧ n ≤ 100000) :
    CR Tryz.prog ov 14 [nv n, .string s] ⟨h, c⟩ (fun v st => ∃ (t : List Nat) (e : Nat), v = .agg #[.string (txt t), nv e] ∧ TellsW n (bitsL s.data.toList) e t ∧ Keep [] h c st) := by
  refine (rWith_cr H.h hs hn).mono ?_
  rintro v st ⟨⟨r, hr, hv⟩, k⟩
  cases r with
  | ok y => obtain ⟨p, m⟩ := y; exact ⟨p.2, 0, hv, ⟨_, hr, rfl, rfl⟩, k⟩
  | error e => exact ⟨[], e, hv, ⟨_, hr, rfl, rfl⟩, k⟩
end
theorem TellsW.det {n e e' : Nat} {l : List Bool} {t t' : List Nat} (a : TellsW n l e t) (b : TellsW n l e' t') : e = e' ∧ t = t' := by
  obtain ⟨r, hr, q⟩ := a
  obtain ⟨r', hr', q'⟩ := b
  have e1 : r = r' := Runs.det hr hr'
  subst e1
  cases r with
  | ok y => obtain ⟨p, m⟩ := y; exact ⟨q.2.trans q'.2.symm, q.1.symm.trans q'.1⟩
  | error e => exact ⟨q.1.trans q'.1.symm, q.2.trans q'.2.symm⟩
theorem knows17_b : OvB (knows [e_s17]) := ⟨fun k hk => by
  simp only [List.mem_cons, List.not_mem_nil, or_false, not_or] at hk
  have e : Nat.beq 33 k = false := by
    cases hq : Nat.beq 33 k with
    | false => rfl
    | true => exact absurd (Nat.eq_of_beq_eq_true hq).symm hk.2.2.2.2.2.2
  unfold knows
  simp only [List.any_cons, List.any_nil, e_s17, e, Bool.or_self]
  exact theOv_b.h k (by simp only [List.mem_cons, List.not_mem_nil, or_false, not_or]; exact hk), rfl, rfl, rfl⟩
def e_none : KE := ⟨11, none, [], none, .bool true⟩
theorem k_none : KnownOk e_none := known_cr (tab := [e_s17]) (known_cons k_s17 known_nil) rfl rfl (none_cr knows17_b rfl (fun h c => CR_ov Tryz.func33 rfl (g := fun args s => [e_s17].findSome? fun e => match Nat.beq e.f 33 with
    | true => e.run args s
    | false => none) rfl (s' := ⟨h, c⟩) rfl ⟨rfl, Keep.refl (Nat.le_refl c)⟩))
theorem knowsN_b : OvB (knows [e_none]) := ⟨fun k hk => by
  simp only [List.mem_cons, List.not_mem_nil, or_false, not_or] at hk
  have e : Nat.beq 11 k = false := by
    cases hq : Nat.beq 11 k with
    | false => rfl
    | true => exact absurd (Nat.eq_of_beq_eq_true hq).symm hk.2.2.2.2.1
  unfold knows
  simp only [List.any_cons, List.any_nil, e_none, e, Bool.or_self]
  exact theOv_b.h k (by simp only [List.mem_cons, List.not_mem_nil, or_false, not_or]; exact hk), rfl, rfl, rfl⟩
theorem noneK_cr {h : Heap} {c : Nat} : CR Tryz.prog (knows [e_none]) 11 [] ⟨h, c⟩ (fun v st => v = .bool true ∧ Same h c st) :=
  CR_ov Tryz.func11 rfl (g := fun args s => [e_none].findSome? fun e => match Nat.beq e.f 11 with
    | true => e.run args s
    | false => none) rfl (s' := ⟨h, c⟩) rfl ⟨rfl, rfl, Nat.le_refl c⟩
def Ext {α : Type} (f : List Bool → Except Nat α) : Prop := ∀ l x : List Bool, f l = .error 3 ∨ f (l ++ x) = f l
theorem take_app {l : List Bool} {n : Nat} (x : List Bool) (h : n ≤ l.length) : (l ++ x).take n = l.take n := by rw [List.take_append, show n - l.length = 0 by omega]; simp
theorem Ext.map {α β : Type} {f : List Bool → Except Nat α} {g : α → β} (h : Ext f) : Ext (fun l => (f l).map g) := by
  intro l x
  rcases h l x with q | q
  · left; simp only [q]; rfl
  · right; simp only [q]
theorem onesX_app : ∀ {l : List Bool} (n : Nat) (x : List Bool), n ≤ l.length ∨ ones (l.take n) < l.length → ones ((l ++ x).take n) = ones (l.take n)
  | [], n, x, h => by
    rcases h with h | h
    · have : n = 0 := by simpa using h
      subst this; simp
    · simp at h
  | b :: l, 0, x, h => by simp
  | b :: l, n + 1, x, h => by
    cases b with
    | false => simp [ones]
    | true =>
      simp only [List.cons_append, List.take_succ_cons, ones, List.length_cons] at h ⊢
      rw [onesX_app n x (by omega)]
theorem onesX_le (l : List Bool) : ones l ≤ l.length := by
  induction l with
  | nil => simp [ones]
  | cons b l ih => cases b <;> simp [ones]; exact ih
theorem Pk.ext (p : Pk) : Ext p.step := by
  intro l x
  simp only [Pk.step]
  split
  · simp only [Pk.head]
    by_cases U : l.length < 18
    · left; rw [if_pos U]
    · right
      rw [List.length_append, if_neg U, if_neg (show ¬ l.length + x.length < 18 by omega), take_app x (by omega)]
      rw [List.drop_append_of_le_length (by omega), take_app (l := l.drop 3) x (by rw [List.length_drop]; omega)]
  · simp only [Pk.pick]
    have h1 := onesX_le (l.take p.t)
    rw [List.length_take] at h1
    by_cases hs : p.t ≤ l.length ∨ ones (l.take p.t) < l.length
    · rw [onesX_app p.t x hs, List.length_append]
      by_cases ht : ones (l.take p.t) = p.t
      · right; rw [if_pos ht, if_pos ht]
      · rw [if_neg ht, if_neg ht]
        by_cases U : ones (l.take p.t) = l.length
        · left; rw [if_pos U]
        · right; rw [if_neg U, if_neg (by omega)]
    · left; rw [if_neg (by omega), if_pos (by omega)]
theorem De.ext (d : De) : Ext d.step := by
  intro l x
  simp only [De.step]
  split
  · by_cases U : l.length < 5
    · left; rw [if_pos U]
    · right; rw [List.length_append, if_neg U, if_neg (show ¬ l.length + x.length < 5 by omega), take_app x (by omega)]
  · match l with
    | [] => left; rfl
    | false :: _ => right; rfl
    | [true] => left; rfl
    | true :: false :: _ => right; rfl
    | true :: true :: _ => right; rfl
theorem getC_ext (t : List Nat) : ∀ (l x : List Bool) (n v : Nat), getC t n v l = .error 3 ∨ getC t n v (l ++ x) = getC t n v l
  | [], x, n, v => by
    by_cases h : 20 < n
    · right; cases x <;> simp [getC, h]
    · left; simp [getC, h]
  | b :: l, x, n, v => by
    simp only [List.cons_append, getC]
    split
    · exact .inr rfl
    · split
      · exact .inr rfl
      · exact getC_ext t l x _ _
theorem Co.ext (c : Co) : Ext c.step := by
  intro l x
  simp only [Co.step_eq]
  split
  · exact (Pk.ext c.pk).map l x
  · split
    · simp only [Co.tab]
      rcases De.ext c.de l x with q | q
      · left; rw [q]
      · right; rw [q]
    · simp only [Co.sym]
      split
      · exact .inr rfl
      · exact Ext.map (fun l x => getC_ext _ l x 1 0) l x
theorem Rw.ext (w : Rw) : Ext w.step := by
  intro l x
  simp only [Rw.step]
  rcases Co.ext w.co l x with q | q
  · left; rw [q]
  · right; rw [q]
theorem rowsR_ext : ∀ (a : List Nat) (l x : List Bool), rowsR a l = none ∨ rowsR a (l ++ x) = rowsR a l
  | [], l, x => .inr rfl
  | i :: a, l, x => by
    simp only [rowsR]
    by_cases h : l.length < 16
    · left; rw [if_pos h]
    · rw [List.length_append, if_neg h, if_neg (show ¬ l.length + x.length < 16 by omega), take_app x (by omega), List.drop_append_of_le_length (by omega)]
      rcases rowsR_ext a (l.drop 16) x with q | q
      · left; rw [q]; rfl
      · right; rw [q]
theorem usedR_ext : Ext usedR := by
  intro l x
  simp only [usedR]
  by_cases h : l.length < 16
  · left; rw [if_pos h]
  · rw [List.length_append, if_neg h, if_neg (show ¬ l.length + x.length < 16 by omega), take_app x (by omega), List.drop_append_of_le_length (by omega)]
    rcases rowsR_ext (idx (l.take 16) 0) (l.drop 16) x with q | q
    · left; rw [q]
    · right; rw [q]
theorem Bl.ext (b : Bl) : Ext b.step := by
  intro l x
  have hg : b.go l = .error 3 ∨ b.go (l ++ x) = b.go l := by
    simp only [Bl.go]
    split
    · by_cases h : l.length < 57
      · left; rw [if_pos h]
      · right
        rw [List.length_append, if_neg h, if_neg (show ¬ l.length + x.length < 57 by omega), take_app x (by omega), List.drop_append_of_le_length (by omega), List.drop_append_of_le_length (by omega), take_app (l := l.drop 32) x (by rw [List.length_drop]; omega), take_app (l := l.drop 33) x (by rw [List.length_drop]; omega)]
    · split
      · exact usedR_ext.map l x
      · split
        · exact .inr rfl
        · exact (Rw.ext _).map l x
  simp only [Bl.step]
  rcases hg with q | q
  · left; rw [q]
  · right; rw [q]
theorem Un.ext (u : Un) (l x : List Bool) (hx : x.length % 8 = 0) : u.step l = .error 3 ∨ u.step (l ++ x) = u.step l := by
  simp only [Un.step]
  split
  · simp only [Un.letter]
    by_cases h : l.length < 8
    · left; rw [if_pos h]
    · right; rw [List.length_append, if_neg h, if_neg (show ¬ l.length + x.length < 8 by omega), take_app x (by omega)]
  · split
    · simp only [Un.magic]
      by_cases h : l.length < 48
      · left; rw [if_pos h]
      · right; rw [List.length_append, if_neg h, if_neg (show ¬ l.length + x.length < 48 by omega), take_app x (by omega)]
    · split
      · simp only [Un.body]
        split
        · exact .inr rfl
        · rename_i b _
          rcases Bl.ext b l x with q | q
          · left; rw [q]
          · right; rw [q]
      · simp only [Un.sumS]
        by_cases h : l.length < 32
        · left; rw [if_pos h]
        · right; rw [List.length_append, if_neg h, if_neg (show ¬ l.length + x.length < 32 by omega), take_app x (by omega), show (l.length + x.length - 32) % 8 = (l.length - 32) % 8 by omega]
def Un.calm (u : Un) : Prop := (u.due ≠ 2 → u.block = none) ∧ (u.due ≠ 0 → u.at_ = 0)
theorem Un.calm_new (n : Nat) : (Un.new n).calm := ⟨fun _ => rfl, fun h => absurd rfl h⟩
theorem Un.calm_step {u u' : Un} {l : List Bool} {w n : Nat} (h : u.step l = .ok (u', w, n)) (hc : u.calm) : u'.calm ∧ u'.unit = u.unit ∧ (w = 2 ↔ u'.mayEnd = true) ∧ (u.due = 0 → 8 ≤ l.length) := by
  obtain ⟨h1, h2⟩ := hc
  simp only [Un.step] at h
  split at h
  · rename_i hd
    have hb := h1 (by omega)
    simp only [Un.letter] at h
    repeat' split at h
    all_goals first | (cases h; done) | skip
    · cases h; exact ⟨⟨fun _ => hb, fun q => absurd hd q⟩, rfl, by simp [Un.mayEnd], fun _ => by omega⟩
    · cases h; exact ⟨⟨fun _ => hb, fun _ => rfl⟩, rfl, by simp [Un.mayEnd], fun _ => by omega⟩
  · rename_i h0
    split at h
    · rename_i hd
      have hb := h1 (by omega)
      simp only [Un.magic] at h
      repeat' split at h
      all_goals first | (cases h; done) | skip
      · cases h; exact ⟨⟨fun q => absurd rfl q, fun _ => h2 h0⟩, rfl, by simp [Un.mayEnd], fun q => absurd q h0⟩
      · cases h; exact ⟨⟨fun _ => hb, fun _ => h2 h0⟩, rfl, by simp [Un.mayEnd], fun q => absurd q h0⟩
    · rename_i hn1
      split at h
      · rename_i hd
        simp only [Un.body] at h
        repeat' split at h
        all_goals first | (cases h; done) | skip
        · cases h; exact ⟨⟨fun q => absurd hd q, fun _ => h2 h0⟩, rfl, by simp [Un.mayEnd, hd], fun q => absurd q h0⟩
        · cases h; exact ⟨⟨fun _ => rfl, fun _ => h2 h0⟩, rfl, by simp [Un.mayEnd], fun q => absurd q h0⟩
      · rename_i hn2
        have hb := h1 hn2
        simp only [Un.sumS] at h
        repeat' split at h
        all_goals first | (cases h; done) | skip
        cases h; exact ⟨⟨fun _ => hb, fun q => absurd rfl q⟩, rfl, by simp [Un.mayEnd, h2 h0], fun q => absurd q h0⟩
def Bl.part (b : Bl) : Nat := 48 + (if b.head then 57 else 0) + (if b.row.isSome then 32 else 0)
def Bl.spare (b : Bl) : Nat := 47 + (if b.head then 56 else 0) + (if b.row.isSome then 31 else 0)
def Bl.fit (b : Bl) : Prop := (b.head = false → b.row = none) ∧ match b.row with
  | none => b.last = []
  | some x => b.last.length + x.due + (if 0 < x.place then 1 else 0) ≤ b.room
theorem usedR_32 {l : List Bool} {s : List Nat} {n : Nat} (h : usedR l = .ok (s, n)) : 32 ≤ n := by
  simp only [usedR] at h
  split at h
  · cases h
  · cases hi : idx (l.take 16) 0 with
    | nil => rw [hi] at h; simp [rowsR] at h
    | cons i a =>
      rw [hi] at h
      simp only [rowsR] at h
      split at h
      · cases h
      · rename_i s' n' hr
        split at hr
        · cases hr
        · cases hq : rowsR a (List.drop 16 (List.drop 16 l)) with
          | none => rw [hq] at hr; cases hr
          | some p =>
            rw [hq] at hr; simp only [Option.map_some, Option.some.injEq, Prod.mk.injEq] at hr
            split at h
            · cases h
            · cases h; omega
theorem Bl.cnt {b b' : Bl} {l : List Bool} {n : Nat} (h : b.step l = .ok (b', n)) (hf : b.fit) : b'.room = b.room ∧ b'.part ≤ b.part + n ∧ 1 + b'.spare + b.last.length ≤ n + b.spare + b'.last.length ∧ b'.last.length ≤ b.room ∧ (b'.done = true → b.done = false → b'.head = true ∧ b'.row.isSome = true) := by
  simp only [Bl.step] at h
  cases hg : b.go l with
  | error e => rw [hg] at h; cases h
  | ok y =>
    obtain ⟨b1, n1⟩ := y
    rw [hg] at h
    simp only at h
    cases hfi : b1.fin with
    | error e => rw [hfi] at h; cases h
    | ok b2 =>
      rw [hfi] at h; cases h
      have key : b1.room = b.room ∧ b1.part ≤ b.part + n ∧ 1 + b1.spare + b.last.length ≤ n + b.spare + b1.last.length ∧ b1.last.length ≤ b.room ∧ b1.done = b.done ∧ b1.head = true := by
        obtain ⟨f1, f2⟩ := hf
        simp only [Bl.go] at hg
        split at hg
        · rename_i hh
          have hh : b.head = false := by simpa using hh
          have hr := f1 hh
          rw [hr] at f2
          repeat' split at hg
          all_goals first | (cases hg; done) | skip
          cases hg
          simp [Bl.part, Bl.spare, hh, hr, f2]
        · rename_i hh
          have hh : b.head = true := by simpa using hh
          split at hg
          · rename_i hr
            rw [hr] at f2
            cases hu : usedR l with
            | error e => rw [hu] at hg; cases hg
            | ok y =>
              rw [hu] at hg; cases hg
              have := usedR_32 hu
              simp [Bl.part, Bl.spare, hh, hr, f2]; omega
          · rename_i x hr
            rw [hr] at f2
            simp only at f2
            split at hg
            · rename_i hw
              cases hg
              have hw2 : 0 < x.due ∨ 0 < x.place := by simp [Rw.waits] at hw; exact hw
              have : 1 ≤ x.due + (if 0 < x.place then 1 else 0) := by split <;> omega
              simp [Bl.part, Bl.spare, hh, hr] <;> omega
            · cases hu : x.step l with
              | error e => rw [hu] at hg; cases hg
              | ok y =>
                rw [hu] at hg; cases hg
                have hp : 1 ≤ y.2 := by
                  simp only [Rw.step] at hu
                  cases hc : x.co.step l with
                  | error e => rw [hc] at hu; cases hu
                  | ok z =>
                    obtain ⟨c', o, m⟩ := z
                    have hq := Co.step_pos hc
                    rw [hc] at hu
                    cases o with
                    | none => cases hu; exact hq.1
                    | some s =>
                      simp only at hu
                      cases hz : x.ze.put s with
                      | error e => rw [hz] at hu; cases hu
                      | ok w => rw [hz] at hu; cases hu; exact hq.1
                simp [Bl.part, Bl.spare, hh, hr] <;> omega
      obtain ⟨k1, k2, k3, k4, k5, k6⟩ := key
      simp only [Bl.fin] at hfi
      split at hfi
      · cases hfi; exact ⟨k1, k2, k3, k4, fun q1 q2 => by rw [k5, q2] at q1; cases q1⟩
      · rename_i x hx
        repeat' split at hfi
        all_goals first | (cases hfi; done) | skip
        · cases hfi; exact ⟨k1, k2, k3, k4, fun _ _ => ⟨k6, by rw [hx]; rfl⟩⟩
        · cases hfi; exact ⟨k1, k2, k3, k4, fun _ _ => ⟨k6, by simp [hx]⟩⟩
def Un.cnt (u : Un) (unit k n B : Nat) : Prop := match u.block with
  | none => 137 * B ≤ n ∧ k + 134 * B ≤ n + 9 * (unit * B)
  | some b => 137 * B + b.part ≤ n ∧ k + 134 * B + b.spare ≤ n + 9 * (unit * B) + b.last.length ∧ b.room ≤ 9 * unit ∧ b.done = false
theorem bitsL_append (a b : List UInt8) : bitsL (a ++ b) = bitsL a ++ bitsL b := by simp [bitsL]
theorem bitsL_drop : ∀ (l : List UInt8) (k : Nat), bitsL (l.drop k) = (bitsL l).drop (8 * k)
  | l, 0 => by simp
  | [], k + 1 => by simp [bitsL]
  | a :: l, k + 1 => by
    have e : bitsL (a :: l) = byteBits a ++ bitsL l := by simp [bitsL]
    rw [List.drop_succ_cons, bitsL_drop l k, e, show 8 * (k + 1) = (byteBits a).length + 8 * k by simp [byteBits]; omega, List.drop_append]
    simp
theorem bitsL_cut (s : ByteArray) (k : Nat) (h : k ≤ s.size) : bitsL (s.extract 0 k).data.toList ++ bitsL (s.extract k s.size).data.toList = bitsL s.data.toList ∧ (s.extract 0 k).size = k ∧ (s.extract k s.size).size = s.size - k := by
  refine ⟨?_, by simp [ByteArray.size_extract]; omega, by simp [ByteArray.size_extract]⟩
  rw [← bitsL_append]
  congr 1
  have hs : s.data.toList.length = s.size := Array.length_toList
  simp only [ByteArray.data_extract, Array.toList_extract, List.extract_eq_take_drop, List.drop_zero, Nat.sub_zero]
  rw [List.take_of_length_le (l := List.drop k _) (by rw [List.length_drop, hs]; omega), List.take_append_drop]
section
variable {ov : OvT} (H : OvH ov)
include H
theorem more_cr {h : Heap} {c b dr at_ : Nat} {all : List Bool} {s2 : ByteArray} (hR : BitR all dr at_ (h.get b)) (hs : all.length + 8 * s2.size < 2 ^ 50) :
    CR Tryz.prog ov 24 [ptr b, .string s2] ⟨h, c⟩ (fun v st => BitR (all ++ bitsL s2.data.toList) dr at_ (st.heap.get b) ∧ Keep [b] h c st) := by
  obtain ⟨s, hb, h1, h2, h3, h4, h5⟩ := hR
  have h6 : s2.data.toList.length = s2.size := Array.length_toList
  have hadd : evBin Tryz.prog .add 9 (.string s) (.string s2) = some (.string (s ++ s2)) := by simp only [evBin]; rw [if_pos (by omega)]
  refine e_2 Tryz.func24 rfl (H _ (by decide)) Tryz.ntmps24 (by decide) ?_
  intro env U
  refine sg 1 J (qA U J (nK (rS (sg 2 J (qM U J (qB U J J (nq36 _) (nK (rF U J dA ?_))))))))
  refine rK (kN (sg 9 J (qM U J (qN U J (qF U J fa123_0 (qL U J aA ((p9.1 _ _).trans J) ?_))))))
  refine qM U J (qB U J J hadd (qN U J (qF U J fa123_0 (qW U rfl rfl aA p9 rfl rfl (by first | decide | (simp; done) | (simp; omega)) ?_))))
  refine nK (sg 1 J (qA U J (nK (rR (f_1 U J (.inl J) J ?_)))))
  refine ⟨⟨s ++ s2, (T.get_set _ _ _ _).trans (if_pos rfl), ?_, ?_, h3, ?_, ?_⟩, ((Keep.refl (Nat.le_refl c)).set (.inr (by simp))).up oA⟩
  · rw [List.drop_append_of_le_length (by omega), h1, ← bitsL_append]; simp
  · rw [List.length_append, bitsL_length, h6, h2, ByteArray.size_append]; omega
  · rw [List.length_append]; omega
  · rw [List.length_append, bitsL_length, h6]; omega
theorem drop_cr {h : Heap} {c b dr at_ : Nat} {all : List Bool} (hR : BitR all dr at_ (h.get b)) :
    CR Tryz.prog ov 25 [ptr b] ⟨h, c⟩ (fun v st => BitR all (at_ / 8) at_ (st.heap.get b) ∧ Keep [b] h c st) := by
  obtain ⟨s, hb, h1, h2, h3, h4, h5⟩ := hR
  have h6 : s.data.toList.length = s.size := Array.length_toList
  have e1 : ((at_ : Int) / 8 - dr) = ((at_ / 8 - dr : Nat) : Int) := by omega
  refine e_1 Tryz.func25 rfl (H _ (by decide)) Tryz.ntmps25 (by decide) ?_
  intro env U
  refine sg 1 J (qA U J (nK (rS (sg 2 J (qM U J (qB U J J J (nK (rF U J dA ?_))))))))
  refine rK (kN (rS (rD [] (by decide +kernel) (by decide +kernel) (n := 11) rfl ?_)))
  refine qM U J (qN U J (qF U J fa123_2 (qL U J gA ((p3.1 _ _).trans J) ?_)))
  refine q_quo U rfl rfl ⟨by omega, by omega⟩ wA ?_
  refine qM U J (qN U J (qF U J fa123_1 (qL U J gA ((p3.1 _ _).trans J) ?_)))
  refine q_sub U J J wA ?_
  refine qA U J (ro_nild (kN (sg 10 J (qM U J (qM U J (qN U J (qF U J fa123_0 (qL U J gA ((p9.1 _ _).trans J) ?_))))))))
  refine qM U J (q_sliceS U rfl Tryz.underlying9 rfl rfl ⟨by omega, by omega, by omega⟩ ?_)
  refine qN U J (qF U J fa123_0 (qW U rfl rfl gA p9 rfl rfl (by first | decide | (simp; done) | (simp; omega)) ?_))
  refine nK (sg 9 J (qM U J (qN U J (qF U J fa123_1 (qL U J gA ((p3.1 _ _).trans J) ?_)))))
  refine qM U J (qP U J J wA ?_)
  refine qN U J (qF U J fa123_1 (qW U rfl rfl gA p3 rfl rfl (by first | decide | (simp; done) | (simp; omega)) ?_))
  refine nK (sg 2 J (qM U J (qA U J (nK (rR (f_1 U J (.inl J) J ?_))))))
  have a1 : ((at_ : Int) / 8 - dr).toNat = at_ / 8 - dr := by omega
  have a2 : (dr : Int) + ((at_ : Int) / 8 - dr) = ((at_ / 8 : Nat) : Int) := by omega
  refine ⟨⟨s.extract (at_ / 8 - dr) s.size, ?_, ?_, ?_, by omega, h4, h5⟩, (((Keep.refl (Nat.le_refl c)).set (.inr (by simp))).set (.inr (by simp))).up oA⟩
  · simp [T.get_set, a1, a2]
  · have e3 : (s.extract (at_ / 8 - dr) s.size).data.toList = s.data.toList.drop (at_ / 8 - dr) := by simp only [ByteArray.data_extract, Array.toList_extract, List.extract_eq_take_drop]; rw [List.take_of_length_le (by rw [List.length_drop]; omega)]
    rw [e3, bitsL_drop, ← h1, List.drop_drop]
    congr 1; omega
  · rw [ByteArray.size_extract]; omega
theorem unHeld_cr {h : Heap} {c b : Nat} {u : Un} {W : List Nat} (hP : UnR u b W h.get) (hn : u.block = none) :
    CR Tryz.prog ov 21 [ptr b] ⟨h, c⟩ (fun v st => v = nv 0 ∧ Same h c st) := by
  obtain ⟨_, bvv, bW, hb, hB, rfl⟩ := id hP
  rw [hn] at hB
  obtain ⟨rfl, rfl⟩ := hB
  have h72 : ∀ (c : Nat), CR Tryz.prog ov 72 [.pointer none] ⟨h, c⟩ (fun v st => v = nv 0 ∧ Same h c st) := fun c => by
    refine e_1 Tryz.func72 rfl (H _ (by decide)) Tryz.ntmps72 (by decide) ?_
    intro env U
    refine sg 1 J (qA U J (nK (rS (rB (sg 3 J (qM U J (qB U J J J (qA U J (nK (rT U J dA ?_))))))))))
    refine sg 1 J (qA U J (nK (rR (k_bloR (kR (f_1 U J (.inl J) J ?_))))))
    exact ⟨rfl, rfl, by simp <;> omega⟩
  refine e_1 Tryz.func21 rfl (H _ (by decide)) Tryz.ntmps21 (by decide) ?_
  intro env U
  refine sg 1 J (qA U J (nK (rS (sg 2 J (qM U J (qB U J J (nq33 _) (nK (rF U J dA ?_))))))))
  refine rK (kN (sg 6 J (qM U J (qN U J (qF U J fa121_4 (qL U J aA ((p119.1 _ _).trans J) ?_))))))
  refine qC U J (CR.mono (h72 _) ?_)
  rintro v ⟨hh1, cc1⟩ ⟨rfl, rfl, hk⟩
  try dsimp only at hk
  refine qA U J (nK (rR (f_1 U J (.inl J) J ?_)))
  exact ⟨rfl, rfl, by simp <;> omega⟩
theorem unKept_cr {h : Heap} {c b r e : Nat} {u : Un} {y : Value} (hb : h.get b = some ⟨[nv u.unit, nv u.due, nv u.at_, nv u.level, y, .string (txt u.last), nv u.origin, uv u.gsum, uv u.total, .bool u.ended, nv e], 121, 0⟩) (he : e ≠ 0) :
    CR Tryz.prog ov 23 [ptr b, ptr r] ⟨h, c⟩ (fun v st => v = .tuple #[nv 0, nv e] ∧ Same h c st) := by
  refine e_2 Tryz.func23 rfl (H _ (by decide)) Tryz.ntmps23 (by decide) ?_
  intro env U
  refine sg 2 J (qA U J (qA U J (nK (rS (rB (sg 7 J (qM U J (qB U J J (nq33 _) (qM U J (qG U J J J J (qM U J (qG U J J J J (qB U J J (nq36 _) (qQ U J J J (J) (qA U J (nK (rF U J dA ?_)))))))))))))))))
  refine sg 6 J (qM U J (qN U J (qF U J fa121_8 (qL U J aA ((p23.1 _ _).trans J) ?_))))
  refine qB U J J J (qA U J (nK (rT U J dA ?_)))
  refine rS (rD [] (by decide +kernel) (by decide +kernel) (n := 6) rfl ?_)
  refine qM U J (qN U J (qF U J fa121_8 (qL U J aA ((p23.1 _ _).trans J) ?_)))
  refine qA U J (qA U J (ro_nild (kN (rR (k_bloR (kR (f_2 U J (.inl J) J J ?_)))))))
  exact ⟨rfl, rfl, by simp <;> omega⟩
theorem unNoEnd_cr {h : Heap} {c b e : Nat} {u : Un} {y : Value} (hb : h.get b = some ⟨[nv u.unit, nv u.due, nv u.at_, nv u.level, y, .string (txt u.last), nv u.origin, uv u.gsum, uv u.total, .bool u.ended, nv e], 121, 0⟩) (he : e ≠ 0) :
    CR Tryz.prog ov 18 [ptr b] ⟨h, c⟩ (fun v st => v = .bool false ∧ Same h c st) := by
  refine e_1 Tryz.func18 rfl (H _ (by decide)) Tryz.ntmps18 (by decide) ?_
  intro env U
  refine sg 1 J (qA U J (nK (sg 30 J (qM U J (qB U J J (nn33 _) (qM U J (qG U J J J J (qM U J (qG U J J J J (qN U J (qG U J J J J (qF U J fa121_7 (qG U J J J J (qL U J aA ((p4.1 _ _).trans J) ?_))))))))))))))
  refine qQ U J J J (if_pos J) (qM U J ?_)
  refine q_case U (rfl : lk _ _ 11 = _) (fun h1 => ?_) (fun h1 => ?_)
  · have h1_ := h1
    try simp only [dz] at h1_
    refine qG U J J J h1 (qM U J (qG U J J J h1 (qN U J (qG U J J J h1 (qF U J fa121_1 (qG U J J J h1 (qL U J aA ((p118.1 _ _).trans J) ?_)))))))
    refine qG U J J J h1 (qB U J J J (qQ U J J J (if_pos h1) (qM U J ?_)))
    refine q_case U (rfl : lk _ _ 18 = _) (fun h2 => ?_) (fun h2 => ?_)
    · have h2_ := h2
      try simp only [dz] at h2_
      refine qG U J J J h2 (qM U J (qG U J J J h2 (qN U J (qG U J J J h2 (qF U J fa121_2 (qG U J J J h2 (qL U J aA ((p3.1 _ _).trans J) ?_)))))))
      refine qG U J J J h2 (qB U J J J (qQ U J J J (if_pos h2) (qM U J ?_)))
      refine q_case U (rfl : lk _ _ 25 = _) (fun h3 => ?_) (fun h3 => ?_)
      · have h3_ := h3
        try simp only [dz] at h3_
        refine qG U J J J h3 (qM U J (qG U J J J h3 (qN U J (qG U J J J h3 (qF U J fa121_8 (qG U J J J h3 (qL U J aA ((p23.1 _ _).trans J) ?_)))))))
        refine qG U J J J h3 (qB U J J J (qQ U J J J (if_pos h3) (qA U J (nK (rR (f_1 U J (.inl J) J ?_))))))
        refine ⟨?_, rfl, by simp <;> omega⟩
        simp; omega
      · have h3_ := h3
        try simp only [dz] at h3_
        refine qS U rfl rfl rfl rfl (by rw [h3]; decide) ?_
        refine qS U rfl rfl rfl rfl (by rw [h3]; decide) ?_
        refine qS U rfl rfl rfl rfl (by rw [h3]; decide) ?_
        refine qS U rfl rfl rfl rfl (by rw [h3]; decide) ?_
        refine qS U rfl rfl rfl rfl (by rw [h3]; decide) ?_
        refine qQ U rfl rfl rfl (if_neg (by rw [h3]; decide)) ?_
        refine qA U J (nK (rR (f_1 U J (.inl J) J ?_)))
        exact ⟨rfl, rfl, by simp <;> omega⟩
    · have h2_ := h2
      try simp only [dz] at h2_
      refine qS U rfl rfl rfl rfl (by rw [h2]; decide) ?_
      refine qS U rfl rfl rfl rfl (by rw [h2]; decide) ?_
      refine qS U rfl rfl rfl rfl (by rw [h2]; decide) ?_
      refine qS U rfl rfl rfl rfl (by rw [h2]; decide) ?_
      refine qS U rfl rfl rfl rfl (by rw [h2]; decide) ?_
      refine qQ U rfl rfl rfl (if_neg (by rw [h2]; decide)) ?_
      refine qM U J (qS U rfl rfl rfl rfl (by decide) ?_)
      refine qS U rfl rfl rfl rfl (by decide) ?_
      refine qS U rfl rfl rfl rfl (by decide) ?_
      refine qS U rfl rfl rfl rfl (by decide) ?_
      refine qS U rfl rfl rfl rfl (by decide) ?_
      refine qQ U J J J (J) (qA U J (nK (rR (f_1 U J (.inl J) J ?_))))
      exact ⟨rfl, rfl, by simp <;> omega⟩
  · have h1_ := h1
    try simp only [dz] at h1_
    refine qS U rfl rfl rfl rfl (by rw [h1]; decide) ?_
    refine qS U rfl rfl rfl rfl (by rw [h1]; decide) ?_
    refine qS U rfl rfl rfl rfl (by rw [h1]; decide) ?_
    refine qS U rfl rfl rfl rfl (by rw [h1]; decide) ?_
    refine qS U rfl rfl rfl rfl (by rw [h1]; decide) ?_
    refine qQ U rfl rfl rfl (if_neg (by rw [h1]; decide)) ?_
    refine qM U J (qS U rfl rfl rfl rfl (by decide) ?_)
    refine qS U rfl rfl rfl rfl (by decide) ?_
    refine qS U rfl rfl rfl rfl (by decide) ?_
    refine qS U rfl rfl rfl rfl (by decide) ?_
    refine qS U rfl rfl rfl rfl (by decide) ?_
    refine qQ U J J J (J) (qM U J (qS U rfl rfl rfl rfl (by decide) ?_))
    refine qS U rfl rfl rfl rfl (by decide) ?_
    refine qS U rfl rfl rfl rfl (by decide) ?_
    refine qS U rfl rfl rfl rfl (by decide) ?_
    refine qS U rfl rfl rfl rfl (by decide) ?_
    refine qQ U J J J (J) (qA U J (nK (rR (f_1 U J (.inl J) J ?_))))
    exact ⟨rfl, rfl, by simp <;> omega⟩
theorem unStepE_cr {h : Heap} {c0 b r dr at_ e : Nat} {all : List Bool} {u : Un} {W : List Nat} (hP : UnR u b W h.get) (hR : BitR all dr at_ (h.get r)) (hc : r < c0 ∧ ∀ z ∈ W, z < c0) (hg : u.step (all.drop at_) = .error e) (he3 : e ≠ 3) :
    CR Tryz.prog ov 23 [ptr b, ptr r] ⟨h, c0⟩ (fun v st => v = .tuple #[nv 0, nv e] ∧ e ≠ 0 ∧ (∃ y, st.heap.get b = some ⟨[nv u.unit, nv u.due, nv u.at_, nv u.level, y, .string (txt u.last), nv u.origin, uv u.gsum, uv u.total, .bool u.ended, nv e], 121, 0⟩) ∧ (∃ k, BitR all dr k (st.heap.get r)) ∧ Keep (r :: W) h c0 st) := by
  have hrW := hP.r_ne hR
  obtain ⟨_, bvv, bW, hb, hB, hWW⟩ := id hP
  have hbW : b ∈ W := by rw [hWW]; simp
  have hrb : r ≠ b := fun e => hrW (e ▸ hbW)
  have hbc := hc.2 b hbW
  have hH := fun c' (q : c0 ≤ c') => unStep0_cr H (c0 := c') hP hR ⟨by omega, fun z hz => by have := hc.2 z hz; omega⟩
  simp only [hg, UnPost, V2] at hH
  refine e_2 Tryz.func23 rfl (H _ (by decide)) Tryz.ntmps23 (by decide) ?_
  intro env U
  refine sg 2 J (qA U J (qA U J (nK (rS (rB (sg 7 J (qM U J (qB U J J (nq33 _) (qM U J (qG U J J J J (qM U J (qG U J J J J (qB U J J (nq36 _) (qQ U J J J (J) (qA U J (nK (rF U J dA ?_)))))))))))))))))
  refine sg 6 J (qM U J (qN U J (qF U J fa121_8 (qL U J aA ((p23.1 _ _).trans J) ?_))))
  refine qB U J J J (qA U J (nK (rF U J dA ?_)))
  refine rK (kO (kN (sg 8 J (qM U J (qM U J (qC U J (CR.mono (hH _ oA) ?_)))))))
  rintro v ⟨hh1, cc1⟩ ⟨⟨rfl, he0, hsh, ⟨y1, x1, hB⟩, k, hk3, hR2⟩, hK⟩
  refine qM U J (qE U J J (qE U J J (qA U J (qA U J (nK (rS (sg 2 J (qM U J (qB U J J J (nK (rT U J dA ?_)))))))))))
  refine rg 5 J (qM U J (qM U J (qN U J (qF U J fa121_8 (qW U rfl rfl aA p23 rfl rfl (by simp) ?_)))))
  refine nK (sg 4 J (qM U J (qM U J (qA U J (qA U J (nK (rR (f_2 U J (.inl J) J J ?_))))))))
  refine ⟨rfl, he0, ⟨_, (T.get_set _ _ _ _).trans (if_pos rfl)⟩, ⟨k, hR2.move (by dsimp only; rw [T.get_set, if_neg hrb])⟩, ((hK.base (c0 := c0) oA).set (nm := b) (.inr (by simp [hbW]))).up oA⟩
end
theorem _root_.Go.AE.r_cut {P : Program} {ov : OvT} {a b : Code} {en : Env} {s : St} {K : AExit → Env → St → Prop} (M : Env → St → Prop) (ha : RC P ov a en s (Nxt M K)) (hb : ∀ env s, M env s → RC P ov b env s K) : RC P ov (.seq a b) en s K := by
  rw [RC_seq]
  exact ha.mono (fun x e s q => by cases x with | normal => exact hb _ _ q | _ => exact q)
theorem UnR.fit {u : Un} {b : Nat} {W : List Nat} {g : Nat → Option Blk} (h : UnR u b W g) : ∀ bl, u.block = some bl → bl.fit := by
  intro bl hb
  obtain ⟨_, v, bW, h1, h2, rfl⟩ := h
  rw [hb] at h2
  obtain ⟨p, _, ⟨g1, g2, g3, g4, g5, g6, g7, g8⟩, la, cp, rv, rW, q1, q2, q3, q4, _⟩ := h2
  refine ⟨g6, ?_⟩
  cases hr : bl.row with
  | none => exact g7 hr
  | some x =>
    obtain ⟨k1, k2⟩ := g8 x hr
    rw [hr] at q3
    obtain ⟨rb, _, _, _, _, _, _, _, _, _, hZ, _⟩ := q3
    have := hZ.1.2.2.2.1
    simp only; omega
theorem Un.cnt_step {u u' : Un} {l : List Bool} {w n unit k m B : Nat} (h : u.step l = .ok (u', w, n)) (hc : u.calm) (hg : u.good) (hf : ∀ b, u.block = some b → b.fit) (hu : u.unit = unit) (hk : u.cnt unit k m B) : ∃ B', u'.cnt unit (k + 1) (m + n) B' := by
  obtain ⟨c1, c2⟩ := hc
  simp only [Un.step] at h
  split at h
  · rename_i hd
    have hb := c1 (by omega)
    simp only [Un.cnt, hb] at hk
    simp only [Un.letter] at h
    repeat' split at h
    all_goals first | (cases h; done) | (cases h; exact ⟨B, by simp only [Un.cnt, hb]; omega⟩)
  · rename_i h0
    split at h
    · rename_i hd
      have hb := c1 (by omega)
      simp only [Un.cnt, hb] at hk
      have hlv := (hg.2.2.2.2.1 h0).2
      simp only [Un.magic] at h
      repeat' split at h
      all_goals first | (cases h; done) | skip
      · cases h
        refine ⟨B, ?_⟩
        have : u.level * u.unit ≤ 9 * unit := by rw [hu]; exact Nat.mul_le_mul_right _ hlv
        simp [Un.cnt, Bl.new, Bl.part, Bl.spare]; omega
      · cases h; exact ⟨B, by simp only [Un.cnt, hb]; omega⟩
    · split at h
      · rename_i hd
        obtain ⟨b, hb, _⟩ := hg.2.2.2.2.2.2.1 hd
        simp only [Un.cnt, hb] at hk
        obtain ⟨k1, k2, k3, k4⟩ := hk
        simp only [Un.body, hb] at h
        cases hs : b.step l with
        | error e => rw [hs] at h; cases h
        | ok y =>
          obtain ⟨b', n'⟩ := y
          obtain ⟨q1, q2, q3, q4, q5⟩ := Bl.cnt hs (hf b hb)
          rw [hs] at h
          simp only at h
          by_cases hdn : b'.done = true
          · rw [hdn] at h; simp only [Bool.not_true, Bool.false_eq_true, if_false] at h
            cases h
            obtain ⟨r1, r2⟩ := q5 hdn k4
            refine ⟨B + 1, ?_⟩
            simp only [Un.cnt]
            have e1 : b'.part = 137 := by simp [Bl.part, r1, r2]
            have e2 : b'.spare = 134 := by simp [Bl.spare, r1, r2]
            rw [Nat.mul_succ unit B]
            omega
          · have hd' : b'.done = false := by simpa using hdn
            rw [hd'] at h; simp only [Bool.not_false, if_true] at h
            cases h
            refine ⟨B, ?_⟩
            simp only [Un.cnt]
            exact ⟨by omega, by omega, by omega, hd'⟩
      · rename_i hn2
        have hb := c1 hn2
        simp only [Un.cnt, hb] at hk
        simp only [Un.sumS] at h
        repeat' split at h
        all_goals first | (cases h; done) | (cases h; exact ⟨B, by simp only [Un.cnt, hb]; omega⟩)
theorem Un.cnt_lt {u : Un} {unit k n B L : Nat} (hk : u.cnt unit k n B) (hf : ∀ b, u.block = some b → b.fit) (hn : n ≤ 8 * L) (hL : L ≤ 150) (hu : 24 ≤ unit ∧ unit ≤ 100) : k + 2 ≤ 8 * L + 10 * unit * (L / 20 + 2) := by
  have key : 137 * B ≤ 8 * L ∧ k + 134 * B ≤ 8 * L + 9 * (unit * B) + 9 * unit := by
    cases hb : u.block with
    | none => simp only [Un.cnt, hb] at hk; omega
    | some b =>
      simp only [Un.cnt, hb] at hk
      obtain ⟨_, hfit⟩ := hf b hb
      have : b.last.length ≤ b.room := by
        cases hr : b.row with
        | none => rw [hr] at hfit; simp only at hfit; rw [hfit]; exact Nat.zero_le _
        | some x => rw [hr] at hfit; simp only at hfit; omega
      omega
  obtain ⟨k1, k2⟩ := key
  have e1 : 10 * unit * (L / 20 + 2) = unit * (10 * (L / 20 + 2)) := by rw [Nat.mul_comm 10 unit, Nat.mul_assoc]
  have e2 : unit * (9 * (B + 1)) = 9 * (unit * B) + 9 * unit := by rw [Nat.mul_left_comm, Nat.mul_succ]; omega
  rw [e1]
  have hor : 9 * (B + 1) + 1 ≤ 10 * (L / 20 + 2) ∨ (B = 8 ∧ L / 20 = 6) := by
    by_cases q8 : B = 8
    · by_cases q6 : L / 20 = 6
      · exact .inr ⟨q8, q6⟩
      · left; subst q8; omega
    · left
      rcases (by omega : B = 0 ∨ B = 1 ∨ B = 2 ∨ B = 3 ∨ B = 4 ∨ B = 5 ∨ B = 6 ∨ B = 7) with q | q | q | q | q | q | q | q <;> subst q <;> omega
  rcases hor with q | ⟨rfl, q⟩
  · have := Nat.mul_le_mul_left unit q
    rw [Nat.mul_succ] at this
    omega
  · rw [q]; omega
section
variable {ov : OvT} (H : OvH ov)
include H
theorem unStepA_cr {h : Heap} {c0 b r dr at_ : Nat} {all : List Bool} {u : Un} {W : List Nat} (hP : UnR u b W h.get) (hR : BitR all dr at_ (h.get r)) (hc : r < c0 ∧ ∀ z ∈ W, z < c0) :
    CR Tryz.prog ov 23 [ptr b, ptr r] ⟨h, c0⟩ (fun v st => ∃ w e : Nat, v = .tuple #[nv w, nv e] ∧ Keep (r :: W) h c0 st ∧ ((e = 0 ∧ ∃ u' n, u.step (all.drop at_) = .ok (u', w, n) ∧ BitR all dr (at_ + n) (st.heap.get r) ∧ ∃ W', UnR u' b W' st.heap.get ∧ ∀ z ∈ W', z ∈ W ∨ c0 ≤ z ∧ z < st.ctr) ∨
      (e = 3 ∧ w = 0 ∧ u.step (all.drop at_) = .error 3 ∧ BitR all dr at_ (st.heap.get r) ∧ UnR u b W st.heap.get) ∨
      (e ≠ 0 ∧ e ≠ 3 ∧ w = 0 ∧ u.step (all.drop at_) = .error e ∧ ∃ y, st.heap.get b = some ⟨[nv u.unit, nv u.due, nv u.at_, nv u.level, y, .string (txt u.last), nv u.origin, uv u.gsum, uv u.total, .bool u.ended, nv e], 121, 0⟩))) := by
  cases hg : u.step (all.drop at_) with
  | ok y =>
    obtain ⟨u', w, n⟩ := y
    refine (unStep_cr H hP hR hc).mono ?_
    rintro v st ⟨q, k⟩
    rw [hg] at q
    obtain ⟨q1, q2, q3⟩ := q
    exact ⟨w, 0, q1, k, .inl ⟨rfl, u', n, rfl, q2, q3⟩⟩
  | error e =>
    by_cases he : e = 3
    · subst he
      refine (unStep_cr H hP hR hc).mono ?_
      rintro v st ⟨q, k⟩
      rw [hg] at q
      obtain ⟨q1, _, q3, _⟩ := q
      exact ⟨0, 3, q1, k, .inr (.inl ⟨rfl, rfl, rfl, q3 rfl⟩)⟩
    · refine (unStepE_cr H hP hR hc hg he).mono ?_
      rintro v st ⟨q1, q2, q3, _, k⟩
      exact ⟨0, e, q1, k, .inr (.inr ⟨q2, he, rfl, rfl, q3⟩)⟩
end
theorem with_ok {u u' : Un} {out : List Nat} {all l X : List Bool} {n w m : Nat} (hX : X.length % 8 = 0) (U : all.drop n = l ++ X) (h : u.step l = .ok (u', w, m)) (hc : u.calm) : withFin (u, out) (all.drop n) = false ∧ u.step (all.drop n) = .ok (u', w, m) := by
  have h8 := (Un.calm_step h hc).2.2.2
  have hs : u.step (all.drop n) = .ok (u', w, m) := by
    rw [U]; rcases Un.ext u l X hX with q | q
    · rw [q] at h; cases h
    · rw [q]; exact h
  refine ⟨?_, hs⟩
  simp only [withFin]
  by_cases hd : u.due = 0
  · have := h8 hd
    have e : (all.drop n).length = l.length + X.length := by rw [U, List.length_append]
    rw [show ((all.drop n).length == 0) = false from beq_eq_false_iff_ne.mpr (by omega), Bool.and_false]
  · simp [Un.mayEnd, hd]
theorem Un.step_err8 {u : Un} {l : List Bool} {e : Nat} (h : u.step l = .error e) (he : e ≠ 3) (hd : u.due = 0) : 8 ≤ l.length := by
  simp only [Un.step, hd, if_true, Un.letter] at h
  split at h
  · cases h; exact absurd rfl he
  · omega
theorem with_err {u : Un} {out : List Nat} {all l X : List Bool} {n e : Nat} (hX : X.length % 8 = 0) (U : all.drop n = l ++ X) (h : u.step l = .error e) (he : e ≠ 3) : Runs withStep withFin all (u, out) n (.error e) := by
  have hs : u.step (all.drop n) = .error e := by
    rw [U]; rcases Un.ext u l X hX with q | q
    · rw [q] at h; cases h; exact absurd rfl he
    · rw [q]; exact h
  refine .fail ?_ ?_
  · simp only [withFin]
    by_cases hd : u.due = 0
    · have := Un.step_err8 hs he hd
      rw [show ((all.drop n).length == 0) = false from beq_eq_false_iff_ne.mpr (by omega), Bool.and_false]
    · simp [Un.mayEnd, hd]
  · simp only [withStep, hs]; rw [if_neg he]
end Go.Proofs.YtegjkhgaoabfcaaGreat
namespace Go.Proofs.YtegjkhgaoabfcaaGreat.CrUnstreamSteps
open Go.AE
def ov := knows [e_none]
theorem ovOK : OvOK Tryz.prog ov := knows_ok (known_cons k_none known_nil)
theorem open3_cr (H : OvB ov) {h : Heap} {c o sum : Nat} {s : List Nat} (h256 : ∀ x ∈ s, x < 256) (hn : s.length ≤ 900000) (ho : o < s.length) (hs : sum < 4294967296) :
    CR Tryz.prog ov 26 [.agg #[.string (txt s), nv o, uv sum]] ⟨h, c⟩ (fun v st => ∃ (t : List Nat) (e : Nat), v = .tuple #[.string (txt t), nv e] ∧ ((e ≠ 0 ∧ openR s o sum = .error e) ∨ (e = 0 ∧ openR s o sum = .ok t ∧ t.length ≤ 225900000)) ∧ Keep [] h c st) := by
  refine (rOpenE_cr H.h h256 hn ho hs).mono ?_
  rintro v st ⟨t, e, q1, q2, k⟩
  refine ⟨t, e, q1, ?_, k⟩
  rcases q2 with q | ⟨q, q3⟩
  · exact .inl q
  · have := openR_ok h256 q3; exact .inr ⟨q, q3, by omega⟩
theorem main_cr (s : ByteArray) (cut un : Nat) (hs : s.size ≤ 150) (hcut : cut ≤ s.size) (hun : 24 ≤ un ∧ un ≤ 100) : CR Tryz.prog ov 5 [.string s, nv cut, nv un] ⟨.leaf, 0⟩ (fun v _ => v = .bool true) := by
  have H : OvB ov := knowsN_b
  have hnone := fun (h : Heap) (c : Nat) => noneK_cr (h := h) (c := c)
  obtain ⟨N, hN⟩ : ∃ N, N = 8 * s.size + 10 * un * (s.size / 20 + 2) := ⟨_, rfl⟩
  have hN1 : (10 * (un : Int)) * ((s.size : Int) / 20 + 2) = ((10 * un * (s.size / 20 + 2) : Nat) : Int) := by simp
  have hN2 : 10 * un * (s.size / 20 + 2) ≤ 1000 * 9 := Nat.mul_le_mul (by omega) (by omega)
  obtain ⟨hc1, hc2, hc3⟩ := bitsL_cut s cut hcut
  have hnew := fun (h : Heap) (c : Nat) => unNew_cr H.h (h := h) (c := c) (unit := (un : Int))
  simp only [show (24 ≤ (un : Int) ∧ (un : Int) ≤ 100000) from ⟨by omega, by omega⟩, and_self, if_true, Int.toNat_natCast] at hnew
  have hsl : (bitsL s.data.toList).length = 8 * s.size := by rw [bitsL_length]; have h1 : s.data.toList.length = s.size := Array.length_toList; rw [h1]
  have hX8 : (bitsL (s.extract cut s.size).data.toList).length % 8 = 0 := by rw [bitsL_length]; omega
  have hXl : (bitsL (s.extract cut s.size).data.toList).length = 8 * (s.size - cut) := by rw [bitsL_length]; have h1 : (s.extract cut s.size).data.toList.length = (s.extract cut s.size).size := Array.length_toList; rw [h1, hc3]
  have hAl : (bitsL (s.extract 0 cut).data.toList).length = 8 * cut := by rw [bitsL_length]; have h1 : (s.extract 0 cut).data.toList.length = (s.extract 0 cut).size := Array.length_toList; rw [h1, hc2]
  obtain ⟨all, hall⟩ : ∃ l, l = bitsL s.data.toList := ⟨_, rfl⟩
  obtain ⟨A, hA⟩ : ∃ l, l = bitsL (s.extract 0 cut).data.toList := ⟨_, rfl⟩
  obtain ⟨X2, hX2⟩ : ∃ l, l = bitsL (s.extract cut s.size).data.toList := ⟨_, rfl⟩
  rw [← hA, ← hX2, ← hall] at hc1
  rw [← hall] at hsl
  rw [← hX2] at hX8 hXl
  rw [← hA] at hAl
  refine e_3 Tryz.func5 rfl (H.h _ (by decide)) Tryz.ntmps5 (by decide) ?_
  intro env U
  refine sg 1 J (qA U J (nK (rS (sg 22 J (qM U J (qK U J Tryz.underlying9 (qB U J J J (qM U J ?_))))))))
  refine q_case U (rfl : lk _ _ 24 = _) (fun h1 => ?_) (fun h1 => ?_)
  · have h1_ := h1
    try simp only [dz] at h1_
    omega
  · have h1_ := h1
    try simp only [dz] at h1_
    refine qG U J J J h1 (qM U J (qG U J J J h1 (qB U J J J (qQ U rfl rfl rfl (if_neg (by rw [h1]; decide)) ?_))))
    refine qM U J ?_
    refine q_case U (rfl : lk _ _ 28 = _) (fun h2 => ?_) (fun h2 => ?_)
    · have h2_ := h2
      try simp only [dz] at h2_
      omega
    · have h2_ := h2
      try simp only [dz] at h2_
      refine qG U J J J h2 (qM U J (qG U J J J h2 (qM U J (qG U J J J h2 (qK U J Tryz.underlying9 (qG U J J J h2 (qB U J J J (qQ U rfl rfl rfl (if_neg (by rw [h2]; decide)) ?_))))))))
      refine qM U J ?_
      refine q_case U (rfl : lk _ _ 34 = _) (fun h3 => ?_) (fun h3 => ?_)
      · have h3_ := h3
        try simp only [dz] at h3_
        omega
      · have h3_ := h3
        try simp only [dz] at h3_
        refine qG U J J J h3 (qM U J (qG U J J J h3 (qC U J (CR.mono (rUnit_cr H.h) ?_))))
        rintro v ⟨hh1, cc1⟩ ⟨rfl, rfl, hk⟩
        try dsimp only at hk
        refine qG U J J J h3 (q_un U J J (qQ U rfl rfl rfl (if_neg (by rw [h3]; decide)) ?_))
        refine qM U J ?_
        refine q_case U (rfl : lk _ _ 39 = _) (fun h4 => ?_) (fun h4 => ?_)
        · have h4_ := h4
          try simp only [dz] at h4_
          simp at h4; omega
        · have h4_ := h4
          try simp only [dz] at h4_
          refine qG U J J J h4 (qM U J (qG U J J J h4 (qB U J J J (qQ U rfl rfl rfl (if_neg (by rw [h4]; decide)) ?_))))
          refine nK (rF U rfl (by first | (simp; done) | (simp; omega)) ?_)
          refine rK (kN (sg 7 J (qM U J (qC U J (CR.mono (hnew _ _) ?_)))))
          rintro v ⟨hh2, cc2⟩ ⟨⟨b, rfl, hU, hb1, hb2⟩, hKn⟩
          have hcc1 := hKn.1
          dsimp only at hcc1 hU hb2
          refine qM U J (qE U J J (qE U J J (qA U J (qA U J (nK (sg 5 J (qM U J (qM U J (q_sliceS U rfl Tryz.underlying9 rfl rfl ⟨by omega, by omega, by omega⟩ ?_)))))))))
          refine qC U J (CR.mono (newReader_cr H.h (s := s.extract 0 cut) (by rw [hc2]; omega)) ?_)
          rintro v ⟨hh3, cc3⟩ ⟨r, rfl, hr1, hr2, hR, hK2⟩
          refine qA U J (nK (sg 5 J ?_))
          have hcc2 := hK2.1
          dsimp only at hcc2 hR hr2
          rw [← hA] at hR
          refine qM U J (qM U J (qC U J (CR.mono (rWithT_cr H (n := un) (s := s) oA oA) ?_)))
          rintro v ⟨hh4, cc4⟩ ⟨wt, we, rfl, hT, hK3⟩
          have hcc3 := hK3.1
          dsimp only at hcc3
          rw [← hall] at hT
          refine qZ i28 z28 J (qV U rfl rfl gA p28 rfl rfl (by simp [Value.cells]) ?_)
          refine nK (sg 1 J (qA U J (nK (sg 1 J (qA U J (nK (rS (sg 12 J (qM U J (qB U J J J (qM U J (qG U J J J J (qM U J (qG U J J J J (qC U J (CR.mono (unMayEnd_cr H.h (hU.move (fun z hz => by simp only [List.mem_singleton] at hz; subst hz; dsimp only; rw [T.get_set, if_neg oA, T.get_set, if_neg oA]; exact (hK3.2 _ oA (by simp)).trans (hK2.2 _ oA (by simp))))) ?_))))))))))))))))
          rintro v ⟨hh5, cc5⟩ ⟨rfl, rfl, hk⟩
          try dsimp only at hk
          refine qQ U J J J (J) (qM U J (qG U J J J J (qM U J (qG U J J J J (qC U J (CR.mono (unGot_cr H.h (hU.move (fun z hz => by simp only [List.mem_singleton] at hz; subst hz; dsimp only; rw [T.get_set, if_neg oA, T.get_set, if_neg oA]; exact (hK3.2 _ oA (by simp)).trans (hK2.2 _ oA (by simp)))) oA) ?_))))))
          rintro v ⟨hh6, cc6⟩ ⟨rfl, hKg⟩
          refine qG U J J J J (qU U rfl i40 z40 rfl (by simp [Program.built, Instr.fill, Tryz.underlying40, Value.cells]; rfl) ?_)
          refine qG U J J J J (qB U rfl rfl (v := .bool false) (by kernel_rfl) ?_)
          refine qQ U J J J (J) (nK (rF U J dA ?_))
          refine rK (kN (rS (sg 12 J (qM U J (qK U J Tryz.underlying9 (q_mul U J J wA ?_))))))
          refine qM U J (q_mul U J J wA ?_)
          refine qM U J (qK U J Tryz.underlying9 (q_quo U rfl rfl ⟨by omega, by omega⟩ wA ?_))
          refine qP U J J wA ?_
          refine q_mul U J J wA ?_
          refine qP U J J wA ?_
          refine qM U J (nK (rB ?_))
          have hcc6 := hKg.1
          dsimp only at hcc6
          have hold : ∀ z, z < cc3 → T.get hh6 z = T.get hh3 z := fun z hz => (hKg.2 z (by omega) (by simp)).trans (by dsimp only; rw [T.get_set, if_neg (by omega), T.get_set, if_neg (by omega)]; exact hK3.2 _ (by omega) (by simp))
          have hpg : T.get hh6 (cc3 + 3) = some ⟨[.string (txt wt), nv we], 28, 0⟩ := (hKg.2 _ (by omega) (by simp)).trans (by dsimp only; rw [T.get_set, if_pos rfl]; rfl)
          refine rL (fun m env' s' => ∃ (j n B dr : Nat) (u : Un) (out W : List Nat) (cur X : List Bool) (come : Bool), m = N - (j + come.toNat) ∧ Hd 205 [(0, .string s), (1, iv cut), (7, ptr b), (9, ptr r), (10, ptr (cc3 + 3)), (11, .bool come), (12, .string (txt out)), (78, nv N), (79, nv (j + come.toNat))] env' ∧ UnR u b W s'.heap.get ∧ BitR cur dr n (s'.heap.get r) ∧ s'.heap.get (cc3 + 3) = some ⟨[.string (txt wt), nv we], 28, 0⟩ ∧ cur ++ X = all ∧ X.length % 8 = 0 ∧ (come = true → X = []) ∧ (come = false → cur = A ∧ X = X2) ∧ u.calm ∧ u.unit = un ∧ u.cnt un j n B ∧ (∀ rr, Runs withStep withFin all (u, out) n rr → WithR un all rr) ∧ out.length ≤ 225900000 * j ∧ (∀ z ∈ W, z < s'.ctr) ∧ r < s'.ctr ∧ cc3 + 3 < s'.ctr) N ?_ ?_
          · refine ⟨0, 0, 0, 0, Un.new un, [], [b], A, X2, false, by simp, Ho U ⟨rfl, rfl, rfl, rfl, rfl, rfl, rfl, congrArg (fun z => some (Value.int .i64 z)) oA, rfl, trivial⟩, hU.move (fun z hz => ?_), hR.move (hold r hr2), hpg, hc1, hX8, fun q => (by cases q), fun _ => ⟨rfl, rfl⟩, Un.calm_new un, rfl, by simp [Un.cnt, Un.new], fun rr q => q, by simp, fun z hz => ?_, by dsimp only; omega, by dsimp only; omega⟩
            · simp only [List.mem_singleton] at hz; subst hz; exact (hold _ (by omega)).trans (hK2.2 _ (by omega) (by simp))
            · simp only [List.mem_singleton] at hz; subst hz; dsimp only; omega
          rintro m _ ⟨h2, c2⟩ ⟨j, n, B, dr, u, out, W, cur, X, come, rfl, ⟨env, U, rfl⟩, hU2, hR2, hp2, hcX, hX, hX0, hXA, hcalm, hunit, hcnt, hRuns, hbd, hW, hrc, hpc⟩
          dsimp only at hU2 hR2 hp2 hW hrc hpc
          have hRl : n ≤ cur.length := by obtain ⟨_, _, _, _, _, q, _⟩ := hR2; exact q
          have hal : cur.length + X.length = 8 * s.size := by rw [← hsl, ← hcX, List.length_append]
          have hlt := Un.cnt_lt hcnt hU2.fit (L := s.size) (by omega) hs hun
          have hco : come.toNat ≤ 1 := by cases come <;> decide
          have hrW := hU2.r_ne hR2
          obtain ⟨hgood, bvv, bW, hbu, hbB, hWW⟩ := id hU2
          have hbW : b ∈ W := by rw [hWW]; simp
          have hpW : cc3 + 3 ∉ W := by rw [hWW]; simp only [List.mem_cons, not_or]; exact ⟨blk_ne hp2 hbu (by dsimp only; decide), kind_ne hbB.kind hp2 (by dsimp only; decide)⟩
          have hpr : r ≠ cc3 + 3 := hR2.ne hp2 (by dsimp only; decide)
          have hbc := hW b hbW
          have hdr : all.drop n = cur.drop n ++ X := by rw [← hcX, List.drop_append_of_le_length hRl]
          have hjN : j + 2 ≤ N := by omega
          refine sg 1 J (qB U J J J (nK (rS (rT U J dA ?_))))
          refine rK (kN (rS (rB (rS ?_))))
          refine r_cut (fun env' s' => ∃ (q : Bool) (c3 : Nat), s' = ⟨h2, c3⟩ ∧ c2 ≤ c3 ∧ Hd 205 [(0, .string s), (1, iv cut), (7, ptr b), (9, ptr r), (10, ptr (cc3 + 3)), (11, .bool come), (12, .string (txt out)), (78, nv N), (79, nv (j + come.toNat)), (90, .bool q)] env' ∧ (q = true → u.mayEnd = true ∧ n = cur.length ∧ come = true) ∧ (q = false → u.mayEnd = true → n = cur.length → come = true → False)) ?_ ?_
          · skip
            refine rg 10 J (qM U J (qC U J (CR.mono (unMayEnd_cr H.h hU2) ?_)))
            rintro v ⟨hh7, cc7⟩ ⟨rfl, rfl, hk⟩
            try dsimp only at hk
            refine qM U J ?_
            refine q_case U (rfl : lk _ _ 83 = _) (fun hme => ?_) (fun hme => ?_)
            · have hme_ := hme
              try simp only [dz] at hme_
              refine qG U J J J hme (qM U J (qG U J J J hme (qC U J (CR.mono (left_cr H.h hR2 oA) ?_))))
              rintro v ⟨hh8, cc8⟩ ⟨rfl, rfl, hk⟩
              try dsimp only at hk
              refine qG U J J J hme (qB U J J J (qQ U J J J (if_pos hme) (qM U J ?_)))
              refine q_case U (rfl : lk _ _ 88 = _) (fun hz => ?_) (fun hz => ?_)
              · have hz_ := hz
                try simp only [dz] at hz_
                refine qG U J J J hz (qM U J (qQ U J J J (if_pos hz) (nK ?_)))
                have hzn : n = cur.length := by (try simp at hz); omega
                exact ⟨come, _, rfl, by omega, Ho U ⟨rfl, rfl, rfl, rfl, rfl, rfl, rfl, rfl, rfl, rfl, trivial⟩, fun q => ⟨hme, hzn, q⟩, fun q _ _ q2 => by rw [q] at q2; cases q2⟩
              · have hz_ := hz
                try simp only [dz] at hz_
                refine qS U rfl rfl rfl rfl (by rw [hz]; decide) ?_
                refine qQ U rfl rfl rfl (if_neg (by rw [hz]; decide)) ?_
                refine nK ?_
                have hzn : n ≠ cur.length := by (try simp at hz); omega
                exact ⟨false, _, rfl, by omega, Ho U ⟨rfl, rfl, rfl, rfl, rfl, rfl, rfl, rfl, rfl, rfl, trivial⟩, fun q => (by cases q), fun _ _ q2 _ => hzn q2⟩
            · have hme_ := hme
              try simp only [dz] at hme_
              refine qS U rfl rfl rfl rfl (by rw [hme]; decide) ?_
              refine q_skipW U rfl rfl rfl rfl (by rw [hme]; decide) ?_
              refine qS U rfl rfl rfl rfl (by rw [hme]; decide) ?_
              refine qQ U rfl rfl rfl (if_neg (by rw [hme]; decide)) ?_
              refine qM U J (qS U rfl rfl rfl rfl (by decide) ?_)
              refine qQ U J J J (J) (nK ?_)
              exact ⟨false, _, rfl, by omega, Ho U ⟨rfl, rfl, rfl, rfl, rfl, rfl, rfl, rfl, rfl, rfl, trivial⟩, fun q => (by cases q), fun _ q1 => by rw [show u.mayEnd = false from hme] at q1; cases q1⟩
          · skip
            rintro _ _ ⟨q, c3, rfl, hk3, ⟨env, U, rfl⟩, hq1, hq2⟩
            refine rC U rfl (fun hq => ?_) (fun hq => ?_)
            · try simp only [dz, dy] at hq
              obtain ⟨hm1, hm2, hm3⟩ := hq1 hq
              have hX3 := hX0 hm3
              have hfin : withFin (u, out) (all.drop n) = true := by simp only [withFin]; rw [hm1, hdr, hX3, hm2]; simp
              obtain ⟨rfl, rfl⟩ := TellsW.det hT ⟨_, hRuns _ (.stop hfin), rfl, rfl⟩
              refine sg 18 J (qF U J fa28_1 (qL U J gA ((p3.1 _ _).trans J) ?_))
              refine qB U J J J (qM U J (qG U J J J J (qM U J (qG U J J J J (qF U J fa28_0 (qG U J J J J (qL U J gA ((p9.1 _ _).trans J) ?_)))))))
              refine qG U J J J J (qB U J J J (qQ U J J J (if_pos J) (qM U J (qG U rfl rfl rfl (by simp) ?_))))
              refine qM U J (qG U rfl rfl rfl (by simp) ?_)
              refine qC U J (CR.mono (unHeld_cr H.h hU2 (hcalm.1 (fun q2 => by simp [Un.mayEnd] at hm1; omega))) ?_)
              rintro v ⟨hh9, cc9⟩ ⟨rfl, rfl, hk⟩
              try dsimp only at hk
              refine qG U rfl rfl rfl (by simp) ?_
              refine qB U J J J (qQ U rfl rfl rfl (if_pos (by simp)) ?_)
              refine qM U J (qG U J J J J (qC U J (CR.mono (hnone _ _) ?_)))
              rintro v ⟨hh10, cc10⟩ ⟨rfl, rfl, hk⟩
              try dsimp only at hk
              refine qQ U J J J (if_pos J) (qA U J (nK (rR (kR (k_bloR (kR (kR (k_bloR (kR (f_1 U J (.inl J) J ?_))))))))))
              rfl
            · try simp only [dz, dy] at hq
              refine rK (kN (sg 3 J (qM U J (qC U J (CR.mono (at_cr H.h hR2) ?_)))))
              rintro v ⟨hh11, cc11⟩ ⟨rfl, rfl, hk⟩
              try dsimp only at hk
              refine qA U J (nK (sg 8 J (qM U J (qM U J (qC U J (CR.mono ((unStepA_cr H.h hU2 hR2 ⟨by omega, fun z hz => by have := hW z hz; omega⟩)) ?_))))))
              rintro v ⟨hhS, ccS⟩ ⟨w, e, rfl, hKs, hcase⟩
              refine qM U J (qE U J J (qE U J J ?_))
              have hccS := hKs.1
              dsimp only at hccS hcase
              have hpS : T.get hhS (cc3 + 3) = some ⟨[.string (txt wt), nv we], 28, 0⟩ := (hKs.2 _ (by omega) (by simp [hpW, Ne.symm hpr])).trans hp2
              refine qA U J (qA U J (nK (rS (sg 6 J (qM U J (qB U J J J (qM U J ?_)))))))
              refine q_case U (rfl : lk _ _ 118 = _) (fun he => ?_) (fun he => ?_)
              · have he_ := he
                try simp only [dz] at he_
                have he0 : e ≠ 0 := by simp at he; exact he
                have hw0 : w = 0 := by rcases hcase with ⟨q, _⟩ | ⟨_, q, _⟩ | ⟨_, _, q, _⟩; exact absurd q he0; exact q; exact q
                subst hw0
                refine qG U J J J he (qM U J (qG U J J J he (qB U J J J (qQ U J J J (if_pos he) (nK (rF U J dA ?_))))))
                refine rK (kN (rS (sg 1 J (qM U J (nK (rB (sg 2 J (qB U J J J (qA U J (nK (rF U rfl (by simp; omega) ?_)))))))))))
                refine sg 2 J (qB U J J J (qA U J (nK ?_)))
                refine rC U rfl (fun h3 => ?_) (fun h3 => ?_)
                · try simp only [dz, dy] at h3
                  have e3 : e = 3 := by (try simp at h3); omega
                  subst e3
                  obtain ⟨hres, hR3, hU3⟩ : u.step (cur.drop n) = .error 3 ∧ BitR cur dr n (T.get hhS r) ∧ UnR u b W (T.get hhS) := by rcases hcase with ⟨q, _⟩ | ⟨_, _, q⟩ | ⟨_, q, _⟩; exact absurd q he0; exact q; exact absurd rfl q
                  refine rS (sg 4 J (qM U J (qC U J (CR.mono (at_cr H.h hR3) ?_))))
                  rintro v ⟨hh13, cc13⟩ ⟨rfl, rfl, hk⟩
                  try dsimp only at hk
                  refine qM U J (qB U J J J (nK (rF U rfl (by simp) ?_)))
                  refine rK (kN (rS (sg 1 J (qM U J (nK ?_)))))
                  refine rC U rfl (fun hcm => ?_) (fun hcm => ?_)
                  · try simp only [dz, dy] at hcm
                    have hX3 := hX0 hcm
                    have hfin : withFin (u, out) (all.drop n) = false := by simp only [withFin]; cases hm : u.mayEnd with | false => rfl | true => (rw [Bool.true_and, hdr, hX3, List.append_nil, List.length_drop]; exact beq_eq_false_iff_ne.mpr (fun q2 => hq2 hq hm (by omega) hcm))
                    have hst : withStep (u, out) (all.drop n) = .error 24 := by simp only [withStep, hdr, hX3, List.append_nil, hres, if_true]
                    obtain ⟨rfl, rfl⟩ := TellsW.det hT ⟨_, hRuns _ (.fail hfin hst), rfl, rfl⟩
                    refine sg 7 J (qF U J fa28_1 (qL U J gA ((p3.1 _ _).trans J) ?_))
                    refine qB U J J J (qM U J (qG U J J J J (qC U J (CR.mono (hnone _ _) ?_))))
                    rintro v ⟨hh14, cc14⟩ ⟨rfl, rfl, hk⟩
                    try dsimp only at hk
                    refine qQ U J J J (if_pos J) (qA U J (nK (rR (kR (k_bloR (kR (k_bloR (kR (kR (k_bloR (kR (f_1 U J (.inl J) J ?_))))))))))))
                    rfl
                  · try simp only [dz, dy] at hcm
                    subst hcm
                    obtain ⟨hcA, hXX⟩ := hXA rfl
                    refine rK (kN (sg 1 J (qA U J (nK (sg 5 J (qM U J (qM U J (qM U J (q_sliceS U rfl Tryz.underlying9 rfl rfl ⟨by omega, by omega, by omega⟩ ?_)))))))))
                    refine qC U J (CR.mono (more_cr H.h hR3 (s2 := s.extract cut s.size) (by rw [hc3]; omega)) ?_)
                    rintro v ⟨hh15, cc15⟩ ⟨hR4, hK4⟩
                    rw [← hX2, ← hXX, hcX] at hR4
                    refine nK (rg 2 J (qM U J (qC U J (CR.mono (drop_cr H.h hR4) ?_))))
                    rintro v ⟨hh16, cc16⟩ ⟨hR5, hK5⟩
                    have hcc4 := hK4.1
                    have hcc5 := hK5.1
                    refine rN (kO (kN (rS (sg 2 J (qM U J (qB U J J J (nK (rF U J dA ?_))))))))
                    refine rK (kN (sg 9 J (qM U J (qB U J J J (qM U J (qB U J J J (qM U J (qS U rfl rfl rfl rfl (by decide) ?_))))))))
                    refine q_skipW U rfl rfl rfl rfl (by decide) ?_
                    refine qQ U J J J (J) (qB U J J J (nK (rF U J dA ?_)))
                    refine rK (kO (kN (rg 2 J (qP U J J wA ?_))))
                    refine qM U J (nK ?_)
                    dsimp only at hcc4 hcc5
                    have hmv : ∀ z, z < ccS → z ≠ r → T.get _ z = T.get hhS z := fun z hz hzr => (hK5.2 z (by omega) (by simp [hzr])).trans (hK4.2 z (by omega) (by simp [hzr]))
                    refine ⟨N - (j + true.toNat), by simp; omega, j, n, B, n / 8, u, out, W, all, [], true, rfl, Ho U ⟨rfl, rfl, rfl, rfl, rfl, rfl, rfl, rfl, congrArg (fun z => some (Value.int .i64 z)) (by simp), trivial⟩, hU3.move (fun z hz => hmv z (by have := hW z hz; omega) (fun q => hrW (q ▸ hz))), hR5, (hmv _ oA (Ne.symm hpr)).trans hpS, List.append_nil _, rfl, fun _ => rfl, fun q => (by cases q), hcalm, hunit, hcnt, hRuns, hbd, fun z hz => by have := hW z hz; dsimp only; omega, by dsimp only; omega, by dsimp only; omega⟩
                · try simp only [dz, dy] at h3
                  have he3 : e ≠ 3 := by (try simp at h3); omega
                  obtain ⟨hres, y, hbe⟩ : u.step (cur.drop n) = .error e ∧ ∃ y, T.get hhS b = some ⟨[nv u.unit, nv u.due, nv u.at_, nv u.level, y, .string (txt u.last), nv u.origin, uv u.gsum, uv u.total, .bool u.ended, nv e], 121, 0⟩ := by rcases hcase with ⟨q, _⟩ | ⟨q, _⟩ | ⟨_, _, _, q⟩; exact absurd q he0; exact absurd q he3; exact q
                  obtain ⟨rfl, rfl⟩ := TellsW.det hT ⟨_, hRuns _ (with_err (out := out) hX hdr hres he3), rfl, rfl⟩
                  refine sg 8 J (qM U J (qM U J (qC U J (CR.mono (unKept_cr H.h hbe he0) ?_))))
                  rintro v ⟨hh17, cc17⟩ ⟨rfl, rfl, hk⟩
                  try dsimp only at hk
                  refine qM U J (qE U J J (qE U J J (qA U J (qA U J (nK (sg 18 J (qM U J (qF U J fa28_1 (qL U J gA ((p3.1 _ _).trans J) ?_)))))))))
                  refine qB U J J J (qM U J (qG U rfl rfl rfl (by simp) ?_))
                  refine qM U J (qG U rfl rfl rfl (by simp) ?_)
                  refine qM U J (qG U rfl rfl rfl (by simp) ?_)
                  refine qB U J J J (qQ U rfl rfl rfl (if_pos (by simp)) ?_)
                  refine qM U J (qG U rfl rfl rfl (by simp) ?_)
                  refine qM U J (qG U rfl rfl rfl (by simp) ?_)
                  refine qC U J (CR.mono (unNoEnd_cr H.h hbe he0) ?_)
                  rintro v ⟨hh18, cc18⟩ ⟨rfl, rfl, hk⟩
                  try dsimp only at hk
                  refine qG U rfl rfl rfl (by simp) ?_
                  refine q_un U J J (qQ U rfl rfl rfl (if_pos (by simp)) ?_)
                  refine qM U J (qG U J J J J (qC U J (CR.mono (hnone _ _) ?_)))
                  rintro v ⟨hh19, cc19⟩ ⟨rfl, rfl, hk⟩
                  try dsimp only at hk
                  refine qQ U J J J (if_pos J) (qA U J (nK (rR (k_bloR (kR (k_bloR (kR (kR (k_bloR (kR (f_1 U J (.inl J) J ?_)))))))))))
                  rfl
              · have he_ := he
                try simp only [dz] at he_
                have he0 : e = 0 := by simp at he; exact he
                subst he0
                obtain ⟨u', n', hres, hR3, W', hU3, hW3⟩ : ∃ u' n', u.step (cur.drop n) = .ok (u', w, n') ∧ BitR cur dr (n + n') (T.get hhS r) ∧ ∃ W', UnR u' b W' (T.get hhS) ∧ ∀ z ∈ W', z ∈ W ∨ c3 ≤ z ∧ z < ccS := by rcases hcase with ⟨_, u', n', q1, q2, W', q3, q4⟩ | ⟨q, _⟩ | ⟨q, _⟩; exact ⟨u', n', q1, q2, W', q3, fun z hz => (q4 z hz).imp id (fun q => by omega)⟩; cases q; exact absurd rfl q
                obtain ⟨hcalm', hunit', hwend, _⟩ := Un.calm_step hres hcalm
                obtain ⟨B', hcnt'⟩ := Un.cnt_step hres hcalm hgood hU2.fit hunit hcnt
                obtain ⟨hwf, hws⟩ := with_ok (out := out) hX hdr hres hcalm
                have hWS : ∀ z ∈ W', z < ccS := fun z hz => by rcases hW3 z hz with q | q; (have := hW z q; omega); exact q.2
                have hpW' : cc3 + 3 ∉ W' := fun m => by rcases hW3 _ m with q | q; exact hpW q; omega
                have hsp := Un.step_pend hres hgood.2.2.2.2.2.2.1
                have hbS : b < ccS := by omega
                refine qS U rfl rfl rfl rfl (by rw [he]; decide) ?_
                refine qS U rfl rfl rfl rfl (by rw [he]; decide) ?_
                refine qQ U rfl rfl rfl (if_neg (by rw [he]; decide)) ?_
                refine nK (rF U J dA ?_)
                refine rK (kN (rS (sg 1 J (qM U J (nK (rB (sg 2 J (qB U J J J (qA U J (nK (rT U J dA ?_)))))))))))
                refine rK (kO (kN (rS (sg 2 J (qM U J (qB U J J J (nK ?_)))))))
                refine rC U rfl (fun hw => ?_) (fun hw => ?_)
                · try simp only [dz, dy] at hw
                  have hw1 : w = 1 := by (try simp at hw); omega
                  subst hw1
                  have hg3 := hU3.1.2.2.2.2.2.2.2
                  refine sg 4 J (qM U J (qC U J (CR.mono (unGot_cr H.h hU3 oA) ?_)))
                  rintro v ⟨hhG, ccG⟩ ⟨rfl, hKg2⟩
                  have hccG := hKg2.1
                  dsimp only at hccG
                  refine qZ i40 z40 J (qV U rfl rfl gA p40 rfl rfl (by simp [Value.cells]) ?_)
                  refine nK (sg 13 J (qF U J fa40_0 (qL U J gA ((p9.1 _ _).trans J) ?_)))
                  refine qF U J fa40_1 (qL U J gA ((p3.1 _ _).trans J) ?_)
                  refine qF U J fa40_2 (qL U J gA ((p38.1 _ _).trans J) ?_)
                  refine qU U rfl i49 z49 rfl (by simp [Program.built, Instr.fill, Tryz.underlying49, Value.cells]; rfl) ?_
                  refine qC U J (CR.mono (open3_cr H hg3.1 hg3.2.1 (hsp.2.2 J) hg3.2.2) ?_)
                  rintro v ⟨hhO, ccO⟩ ⟨t, e5, rfl, ho5, hKo⟩
                  refine qM U J (qE U J J (qE U J J ?_))
                  have hccO := hKo.1
                  dsimp only at hccO
                  have hmv : ∀ z, z < ccS → T.get hhO z = T.get hhS z := fun z hz => (hKo.2 z (by omega) (by simp)).trans (by dsimp only; rw [T.get_set, if_neg (by omega), T.get_set, if_neg (by omega)]; exact hKg2.2 z (by omega) (by simp))
                  have hpO := (hmv _ (by omega)).trans hpS
                  refine qA U J (qA U J (nK (rS (sg 2 J (qM U J (qB U J J J (nK ?_)))))))
                  refine rC U rfl (fun h5 => ?_) (fun h5 => ?_)
                  · try simp only [dz, dy] at h5
                    have h50 : e5 ≠ 0 := by (try simp at h5); omega
                    have hr5 : openR u'.last u'.origin u'.gsum = .error e5 := by rcases ho5 with ⟨_, q⟩ | ⟨q, _⟩; exact q; exact absurd q h50
                    have hst : withStep (u, out) (all.drop n) = .error e5 := by simp only [withStep, hws, if_true, hr5]
                    obtain ⟨rfl, rfl⟩ := TellsW.det hT ⟨_, hRuns _ (.fail hwf hst), rfl, rfl⟩
                    refine sg 8 J (qM U J (qF U J fa28_1 (qL U J gA ((p3.1 _ _).trans J) ?_)))
                    refine qB U J J J (qM U J (qG U rfl rfl rfl (by simp) ?_))
                    refine qC U J (CR.mono (hnone _ _) ?_)
                    rintro v ⟨hh22, cc22⟩ ⟨rfl, rfl, hk⟩
                    try dsimp only at hk
                    refine qQ U rfl rfl rfl (if_pos (by simp)) ?_
                    refine qA U J (nK (rR (kR (kR (k_bloR (kR (kR (k_bloR (kR (f_1 U J (.inl J) J ?_))))))))))
                    rfl
                  · try simp only [dz, dy] at h5
                    have h50 : e5 = 0 := by (try simp at h5); omega
                    obtain ⟨hr5, htl⟩ : openR u'.last u'.origin u'.gsum = .ok t ∧ t.length ≤ 225900000 := by rcases ho5 with ⟨q, _⟩ | ⟨_, q⟩; exact absurd h50 q; exact q
                    refine rK (kN (rg 4 J (qM U J (qM U J (qB U J J (addS _ _ oA) ?_)))))
                    refine qA U J (nK (sg 9 J (qM U J (qB U J J J (qM U J (qB U J J J (qM U J (qG U J J J J (qM U J (qG U J J J J (qC U J (CR.mono (unMayEnd_cr H.h (hU3.move (fun z hz => hmv z (hWS z hz)))) ?_))))))))))))
                    rintro v ⟨hh23, cc23⟩ ⟨rfl, rfl, hk⟩
                    try dsimp only at hk
                    have hme' : u'.mayEnd = false := by cases hm : u'.mayEnd with | false => rfl | true => exact absurd (hwend.2 hm) (by decide)
                    refine qQ U J J J (if_pos J) (qB U J J J (nK (rF U rfl (by rw [hme']; rfl) ?_)))
                    refine rK (kO (kN (rg 2 J (qP U J J wA ?_))))
                    refine qM U J (nK ?_)
                    refine ⟨N - (j + 1 + come.toNat), by omega, j + 1, n + n', B', dr, u', out ++ t, W', cur, X, come, rfl, Ho U ⟨rfl, rfl, rfl, rfl, rfl, rfl, rfl, rfl, congrArg (fun z => some (Value.int .i64 z)) oA, trivial⟩, hU3.move (fun z hz => hmv z (hWS z hz)), hR3.move (hmv r oA), hpO, hcX, hX, hX0, hXA, hcalm', hunit'.trans hunit, hcnt', fun rr q => hRuns rr (.more hwf ?_ q), ?_, fun z hz => by have := hWS z hz; dsimp only; omega, by dsimp only; omega, by dsimp only; omega⟩
                    · simp only [withStep, hws, if_true, hr5]
                    · rw [List.length_append]; omega
                · try simp only [dz, dy] at hw
                  refine rK (kN (sg 9 J (qM U J (qB U J J J (qM U J (qB U J J J (qM U J (qG U J J J J (qM U J (qG U J J J J (qC U J (CR.mono (unMayEnd_cr H.h hU3) ?_))))))))))))
                  rintro v ⟨hh24, cc24⟩ ⟨rfl, rfl, hk⟩
                  try dsimp only at hk
                  have hw1 : w ≠ 1 := by (try simp at hw); omega
                  refine qQ U J J J (if_pos J) (qB U J J J (nK (rF U rfl (by cases hm : u'.mayEnd with | true => (have hw2 := hwend.2 hm; subst hw2; rfl) | false => (have hw2 : w ≠ 2 := (fun q => by rw [hwend.1 q] at hm; cases hm); simp; omega)) ?_)))
                  refine rK (kO (kN (rg 2 J (qP U J J wA ?_))))
                  refine qM U J (nK ?_)
                  refine ⟨N - (j + 1 + come.toNat), by omega, j + 1, n + n', B', dr, u', out, W', cur, X, come, rfl, Ho U ⟨rfl, rfl, rfl, rfl, rfl, rfl, rfl, rfl, congrArg (fun z => some (Value.int .i64 z)) oA, trivial⟩, hU3, hR3, hpS, hcX, hX, hX0, hXA, hcalm', hunit'.trans hunit, hcnt', fun rr q => hRuns rr (.more hwf ?_ q), by omega, fun z hz => by have := hWS z hz; dsimp only; omega, by dsimp only; omega, by dsimp only; omega⟩
                  simp only [withStep, hws]; rw [if_neg hw1]
theorem cr (a0 : ByteArray) (a1 a2 : Int) (w0 : a0.size ≤ 140737488351232) (w1 : (Lit.int .i64 a1).wf = true) (w2 : (Lit.int .i64 a2).wf = true) : CR Tryz.prog ov 5 [.string a0, .int .i64 a1, .int .i64 a2] ⟨.leaf, 0⟩ (fun v _ => v = .bool true) := by
  have H : OvB ov := knowsN_b
  have hnone := fun (h : Heap) (c : Nat) => noneK_cr (h := h) (c := c)
  by_cases hr : a0.size ≤ 150 ∧ 0 ≤ a1 ∧ a1 ≤ a0.size ∧ 24 ≤ a2 ∧ a2 ≤ 100
  · obtain ⟨cut, rfl⟩ : ∃ n : Nat, a1 = n := ⟨a1.toNat, by omega⟩
    obtain ⟨un, rfl⟩ : ∃ n : Nat, a2 = n := ⟨a2.toNat, by omega⟩
    exact main_cr a0 cut un (by omega) (by omega) ⟨by omega, by omega⟩
  · skip
    refine e_3 Tryz.func5 rfl (H.h _ (by decide)) Tryz.ntmps5 (by decide) ?_
    intro env U
    refine sg 1 J (qA U J (nK (rS (sg 22 J (qM U J (qK U J Tryz.underlying9 (qB U J J J (qM U J ?_))))))))
    refine q_case U (rfl : lk _ _ 24 = _) (fun h1 => ?_) (fun h1 => ?_)
    · have h1_ := h1
      try simp only [dz] at h1_
      refine qS U rfl rfl rfl rfl (by rw [h1]; decide) ?_
      refine qS U rfl rfl rfl rfl (by rw [h1]; decide) ?_
      refine qQ U J J J (if_pos h1) (qM U J (qS U rfl rfl rfl rfl (by decide) ?_))
      refine qS U rfl rfl rfl rfl (by decide) ?_
      refine qS U rfl rfl rfl rfl (by decide) ?_
      refine qS U rfl rfl rfl rfl (by decide) ?_
      refine qQ U J J J (if_pos J) (qM U J (qS U rfl rfl rfl rfl (by decide) ?_))
      refine q_skipW U rfl rfl rfl rfl (by decide) ?_
      refine qS U rfl rfl rfl rfl (by decide) ?_
      refine qQ U J J J (if_pos J) (qM U J (qS U rfl rfl rfl rfl (by decide) ?_))
      refine qS U rfl rfl rfl rfl (by decide) ?_
      refine qQ U J J J (if_pos J) (nK (rT U J dA ?_))
      refine sg 2 J (qC U J (CR.mono (hnone _ _) ?_))
      rintro v ⟨hh1, cc1⟩ ⟨rfl, rfl, hk⟩
      try dsimp only at hk
      refine qA U J (nK (rR (kR (f_1 U J (.inl J) J ?_))))
      rfl
    · have h1_ := h1
      try simp only [dz] at h1_
      refine qG U J J J h1 (qM U J (qG U J J J h1 (qB U J J J (qQ U rfl rfl rfl (if_neg (by rw [h1]; decide)) ?_))))
      refine qM U J ?_
      refine q_case U (rfl : lk _ _ 28 = _) (fun h2 => ?_) (fun h2 => ?_)
      · have h2_ := h2
        try simp only [dz] at h2_
        refine qS U rfl rfl rfl rfl (by rw [h2]; decide) ?_
        refine qS U rfl rfl rfl rfl (by rw [h2]; decide) ?_
        refine qS U rfl rfl rfl rfl (by rw [h2]; decide) ?_
        refine qS U rfl rfl rfl rfl (by rw [h2]; decide) ?_
        refine qQ U J J J (if_pos h2) (qM U J (qS U rfl rfl rfl rfl (by decide) ?_))
        refine q_skipW U rfl rfl rfl rfl (by decide) ?_
        refine qS U rfl rfl rfl rfl (by decide) ?_
        refine qQ U J J J (if_pos J) (qM U J (qS U rfl rfl rfl rfl (by decide) ?_))
        refine qS U rfl rfl rfl rfl (by decide) ?_
        refine qQ U J J J (if_pos J) (nK (rT U J dA ?_))
        refine sg 2 J (qC U J (CR.mono (hnone _ _) ?_))
        rintro v ⟨hh2, cc2⟩ ⟨rfl, rfl, hk⟩
        try dsimp only at hk
        refine qA U J (nK (rR (kR (f_1 U J (.inl J) J ?_))))
        rfl
      · have h2_ := h2
        try simp only [dz] at h2_
        refine qG U J J J h2 (qM U J (qG U J J J h2 (qM U J (qG U J J J h2 (qK U J Tryz.underlying9 (qG U J J J h2 (qB U J J J (qQ U rfl rfl rfl (if_neg (by rw [h2]; decide)) ?_))))))))
        refine qM U J ?_
        refine q_case U (rfl : lk _ _ 34 = _) (fun h3 => ?_) (fun h3 => ?_)
        · have h3_ := h3
          try simp only [dz] at h3_
          refine qS U rfl rfl rfl rfl (by rw [h3]; decide) ?_
          refine q_skipW U rfl rfl rfl rfl (by rw [h3]; decide) ?_
          refine qS U rfl rfl rfl rfl (by rw [h3]; decide) ?_
          refine qQ U J J J (if_pos h3) (qM U J (qS U rfl rfl rfl rfl (by decide) ?_))
          refine qS U rfl rfl rfl rfl (by decide) ?_
          refine qQ U J J J (if_pos J) (nK (rT U J dA ?_))
          refine sg 2 J (qC U J (CR.mono (hnone _ _) ?_))
          rintro v ⟨hh3, cc3⟩ ⟨rfl, rfl, hk⟩
          try dsimp only at hk
          refine qA U J (nK (rR (kR (f_1 U J (.inl J) J ?_))))
          rfl
        · have h3_ := h3
          try simp only [dz] at h3_
          refine qG U J J J h3 (qM U J (qG U J J J h3 (qC U J (CR.mono (rUnit_cr H.h) ?_))))
          rintro v ⟨hh4, cc4⟩ ⟨rfl, rfl, hk⟩
          try dsimp only at hk
          refine qG U J J J h3 (q_un U J J (qQ U rfl rfl rfl (if_neg (by rw [h3]; decide)) ?_))
          refine qM U J ?_
          refine q_case U (rfl : lk _ _ 39 = _) (fun h4 => ?_) (fun h4 => ?_)
          · have h4_ := h4
            try simp only [dz] at h4_
            refine qS U rfl rfl rfl rfl (by rw [h4]; decide) ?_
            refine qS U rfl rfl rfl rfl (by rw [h4]; decide) ?_
            refine qQ U J J J (if_pos h4) (nK (rT U J dA ?_))
            refine sg 2 J (qC U J (CR.mono (hnone _ _) ?_))
            rintro v ⟨hh5, cc5⟩ ⟨rfl, rfl, hk⟩
            try dsimp only at hk
            refine qA U J (nK (rR (kR (f_1 U J (.inl J) J ?_))))
            rfl
          · have h4_ := h4
            try simp only [dz] at h4_
            refine qG U J J J h4 (qM U J (qG U J J J h4 (qB U J J J (qQ U rfl rfl rfl (if_neg (by rw [h4]; decide)) ?_))))
            refine nK (rT U rfl (by simp at h4; simp; omega) ?_)
            refine sg 2 J (qC U J (CR.mono (hnone _ _) ?_))
            rintro v ⟨hh6, cc6⟩ ⟨rfl, rfl, hk⟩
            try dsimp only at hk
            refine qA U J (nK (rR (kR (f_1 U J (.inl J) J ?_))))
            rfl
end Go.Proofs.YtegjkhgaoabfcaaGreat.CrUnstreamSteps
