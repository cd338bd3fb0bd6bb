/- Part 10 (a part of the proof of UnstreamWith; no condition). -/
import Derived.Test.YtegjkhgaoabfcaaGreatWi
set_option linter.unusedSimpArgs false
set_option linter.unusedVariables false
set_option maxRecDepth 10000
namespace Go.Proofs.YtegjkhgaoabfcaaGreat
open Go.AE
inductive Steps {S : Type} (step : S → List Bool → Except Nat (S × Nat)) (fin : S → List Bool → Bool) (l : List Bool) : S → Nat → S → Nat → Prop where
  | refl (s : S) (n : Nat) : Steps step fin l s n s n
  | more {s s' t : S} {n k m : Nat} (h : fin s (l.drop n) = false) (q : step s (l.drop n) = .ok (s', k)) (r : Steps step fin l s' (n + k) t m) : Steps step fin l s n t m
def Last {S : Type} (step : S → List Bool → Except Nat (S × Nat)) (fin : S → List Bool → Bool) (l : List Bool) (s : S) (n : Nat) (t : S) (m : Nat) : Prop :=
  Steps step fin l s n t m ∧ (fin t (l.drop m) = true ∨ ∃ e, step t (l.drop m) = .error e)
section
variable {S : Type} {step : S → List Bool → Except Nat (S × Nat)} {fin : S → List Bool → Bool} {l : List Bool}
theorem Steps.trans {s t u : S} {n m k : Nat} (a : Steps step fin l s n t m) (b : Steps step fin l t m u k) : Steps step fin l s n u k := by
  induction a with
  | refl => exact b
  | more h q _ ih => exact .more h q (ih b)
theorem Steps.runs {s t : S} {n m : Nat} {r : Except Nat (S × Nat)} (a : Steps step fin l s n t m) (b : Runs step fin l t m r) : Runs step fin l s n r := by
  induction a with
  | refl => exact b
  | more h q _ ih => exact .more h q (ih b)
theorem Last.det {s t u : S} {n m k : Nat} (a : Last step fin l s n t m) (b : Last step fin l s n u k) : t = u ∧ m = k := by
  obtain ⟨a1, a2⟩ := a
  induction a1 with
  | refl s n =>
    obtain ⟨b1, b2⟩ := b
    cases b1 with
    | refl => exact ⟨rfl, rfl⟩
    | more h q r => rcases a2 with a2 | ⟨e, a2⟩; (rw [h] at a2; cases a2); (rw [q] at a2; cases a2)
  | more h q r ih =>
    obtain ⟨b1, b2⟩ := b
    cases b1 with
    | refl => rcases b2 with b2 | ⟨e, b2⟩; (rw [h] at b2; cases b2); (rw [q] at b2; cases b2)
    | more h' q' r' => rw [q] at q'; cases q'; exact ih ⟨r', b2⟩ a2
theorem Runs.last {s : S} {n : Nat} {r : Except Nat (S × Nat)} (a : Runs step fin l s n r) : ∃ t m, Last step fin l s n t m ∧ ((r = .ok (t, m) ∧ fin t (l.drop m) = true) ∨ ∃ e, r = .error e ∧ step t (l.drop m) = .error e) := by
  induction a with
  | stop h => exact ⟨_, _, ⟨.refl _ _, .inl h⟩, .inl ⟨rfl, h⟩⟩
  | fail h k => exact ⟨_, _, ⟨.refl _ _, .inr ⟨_, k⟩⟩, .inr ⟨_, rfl, k⟩⟩
  | more h q _ ih => obtain ⟨t, m, ⟨i1, i2⟩, i3⟩ := ih; exact ⟨t, m, ⟨.more h q i1, i2⟩, i3⟩
end
def coS (c : Co) (l : List Bool) : Except Nat (Co × Nat) := match c.step l with
  | .error e => .error e
  | .ok (c', _, n) => .ok (c', n)
def coF (c : Co) (_ : List Bool) : Bool := c.done
def blF (b : Bl) (_ : List Bool) : Bool := b.done
def places (d p : Nat) : List Nat := List.replicate d 0 ++ if 0 < p then [p] else []
def dec6 : List Nat → List Nat → List Nat × List Nat
  | [], o => ([], o)
  | p :: r, o => (o.getD p 0 :: (dec6 r (moved o p)).1, (dec6 r (moved o p)).2)
theorem dec6_app : ∀ (a b o : List Nat), dec6 (a ++ b) o = ((dec6 a o).1 ++ (dec6 b (dec6 a o).2).1, (dec6 b (dec6 a o).2).2)
  | [], b, o => by simp [dec6]
  | p :: a, b, o => by simp [dec6, dec6_app a b]
def putsL (z : Ze) : List Nat → Option (Ze × List Nat)
  | [] => some (z, [])
  | s :: r => match z.put s with
    | .error _ => none
    | .ok (z', d, p) => (putsL z' r).map fun q => (q.1, places d p ++ q.2)
theorem putsL_app (a b : List Nat) : ∀ z, putsL z (a ++ b) = (putsL z a).bind fun q => (putsL q.1 b).map fun q' => (q'.1, q.2 ++ q'.2) := by
  induction a with
  | nil => intro z; simp [putsL]
  | cons s a ih =>
    intro z
    simp only [List.cons_append, putsL]
    cases z.put s with
    | error e => rfl
    | ok y =>
      obtain ⟨z', d, p⟩ := y
      simp only [ih]
      cases putsL z' a with
      | none => rfl
      | some q => simp only [Option.bind_some, Option.map_some]; cases putsL q.1 b with
        | none => rfl
        | some q' => simp
theorem putsL_snoc (a : List Nat) (s : Nat) (z : Ze) : putsL z (a ++ [s]) = (putsL z a).bind fun q => match q.1.put s with
    | .error _ => none
    | .ok (z', d, p) => some (z', q.2 ++ places d p) := by
  rw [putsL_app]
  cases putsL z a with
  | none => rfl
  | some q =>
    simp only [Option.bind_some, putsL]
    cases q.1.put s with
    | error e => rfl
    | ok y => obtain ⟨z', d, p⟩ := y; simp
theorem coOut {L : List Bool} {c t : Co} {n m : Nat} (h : Steps coS coF L c n t m) : ∃ r, t.out = c.out ++ r := by
  induction h with
  | refl => exact ⟨[], by simp⟩
  | more h q _ ih =>
    obtain ⟨r, hr⟩ := ih
    simp only [coS] at q
    split at q
    · cases q
    · rename_i c' o k hs
      cases q
      have := (Co.step_ok hs).2
      cases o with
      | none => exact ⟨r, by rw [hr, this.2]⟩
      | some s => exact ⟨s :: r, by rw [hr, this.2]; simp⟩
def RunB (L : List Bool) (b : Bl) (n : Nat) (r : Except Nat (Bl × Nat)) : Prop := match b.fin with
  | .error e => r = .error e
  | .ok b1 => Runs Bl.step blF L b1 n r
theorem RunB.go {L : List Bool} {b b1 : Bl} {n k : Nat} {r : Except Nat (Bl × Nat)} (hd : b.done = false) (hg : b.go (L.drop n) = .ok (b1, k)) (h : RunB L b1 (n + k) r) : Runs Bl.step blF L b n r := by
  simp only [RunB] at h
  cases hf : b1.fin with
  | error e => rw [hf] at h; subst h; exact .fail hd (by simp only [Bl.step, hg, hf]; rfl)
  | ok b2 => rw [hf] at h; exact .more hd (show b.step (L.drop n) = .ok (b2, k) by simp only [Bl.step, hg, hf]; rfl) h
def drained (b : Bl) (x : Rw) : Bl := { b with last := b.last ++ (dec6 (places x.due x.place) x.list).1, row := some { x with due := 0, place := 0, list := (dec6 (places x.due x.place) x.list).2 } }
theorem drain {L : List Bool} {n : Nat} {r : Except Nat (Bl × Nat)} : ∀ (k : Nat) (b : Bl) (x : Rw), x.due + (if 0 < x.place then 1 else 0) = k → b.head = true → b.done = false → b.row = some x → RunB L (drained b x) n r → RunB L b n r := by
  intro k
  induction k with
  | zero =>
    intro b x hk h1 h2 h3 h
    have hd : x.due = 0 := by omega
    have hp : x.place = 0 := by rcases Nat.eq_zero_or_pos x.place with q | q; exact q; (rw [if_pos q] at hk; omega)
    have : drained b x = b := by
      obtain ⟨a1, a2, a3, a4, a5, a6, a7⟩ := b
      obtain ⟨y1, y2, y3, y4, y5⟩ := x
      simp only at hd hp h3; subst hd; subst hp; subst h3
      simp [drained, places, dec6]
    rw [this] at h; exact h
  | succ k ih =>
    intro b x hk h1 h2 h3 h
    have hw : x.waits = true := by
      simp only [Rw.waits, Bool.or_eq_true, decide_eq_true_eq]
      by_cases q : 0 < x.place
      · exact .inr q
      · rw [if_neg q] at hk; exact .inl (by omega)
    have hf : b.fin = .ok b := by simp only [Bl.fin, h3, hw, Bool.or_true, if_true]
    simp only [RunB, hf]
    refine RunB.go (b1 := { b with last := b.last ++ [x.list.getD x.at_ 0], row := some x.next }) (k := 0) h2 (by simp only [Bl.go, h1, h3, hw]; rfl) ?_
    refine ih _ x.next ?_ h1 h2 rfl ?_
    · by_cases q : 0 < x.due
      · have e : x.next = { x with due := x.due - 1, list := moved x.list 0 } := by simp only [Rw.next, if_pos q]
        rw [e]; dsimp only; omega
      · have e : x.next = { x with place := 0, list := moved x.list x.place } := by simp only [Rw.next, if_neg q]
        rw [e]; dsimp only; rw [if_neg (by omega)]; split at hk <;> omega
    · have : drained { b with last := b.last ++ [x.list.getD x.at_ 0], row := some x.next } x.next = drained b x := by
        obtain ⟨y1, y2, y3, y4, y5⟩ := x
        simp only [drained, Rw.at_, Rw.next]
        by_cases q : 0 < y4
        · obtain ⟨y, rfl⟩ : ∃ y, y4 = y + 1 := ⟨y4 - 1, by omega⟩
          simp [places, List.replicate_succ, dec6]
        · have : y4 = 0 := by omega
          subst this
          have hp : 0 < y5 := by simp only at hk; split at hk <;> omega
          simp [places, dec6, hp]
      rw [this]; exact h
def blAt (room sum from_ : Nat) (c : Co) (z : Ze) (list last : List Nat) : Bl := ⟨room, true, sum, from_, last, some ⟨c, z, list, 0, 0⟩, false⟩
theorem row_law {L : List Bool} {room sum from_ : Nat} {z0 : Ze} {s0 : List Nat} {c : Co} {n : Nat} {rc : Except Nat (Co × Nat)} (hr : Runs coS coF L c n rc) :
    ∀ (z : Ze) (ps : List Nat), putsL z0 c.out = some (z, ps) → ∃ r, RunB L (blAt room sum from_ c z (dec6 ps s0).2 (dec6 ps s0).1) n r ∧ ∃ c' m, Last coS coF L c n c' m ∧
      ((putsL z0 c'.out = none ∧ r = .error 25) ∨ (putsL z0 c'.out ≠ none ∧ ∃ e, rc = .error e ∧ r = .error e) ∨
        ∃ z' ps', rc = .ok (c', m) ∧ putsL z0 c'.out = some (z', ps') ∧ r = if (dec6 ps' s0).1.length ≤ from_ then .error 23 else .ok ({ blAt room sum from_ c' z' (dec6 ps' s0).2 (dec6 ps' s0).1 with done := true }, m)) := by
  induction hr with
  | @stop c n h =>
    intro z ps hz
    simp only [coF] at h
    refine ⟨_, ?_, c, n, ⟨.refl _ _, .inl h⟩, .inr (.inr ⟨z, ps, rfl, hz, rfl⟩)⟩
    by_cases q : (dec6 ps s0).1.length ≤ from_
    · have hf : (blAt room sum from_ c z (dec6 ps s0).2 (dec6 ps s0).1).fin = .error 23 := by
        simp only [Bl.fin, blAt, h, Rw.waits, Nat.lt_irrefl, decide_false, Bool.or_false, Bool.not_true, Bool.false_eq_true, if_false]; exact if_pos q
      simp only [RunB, hf]; rw [if_pos q]
    · have hf : (blAt room sum from_ c z (dec6 ps s0).2 (dec6 ps s0).1).fin = .ok { blAt room sum from_ c z (dec6 ps s0).2 (dec6 ps s0).1 with done := true } := by
        simp only [Bl.fin, blAt, h, Rw.waits, Nat.lt_irrefl, decide_false, Bool.or_false, Bool.not_true, Bool.false_eq_true, if_false]; exact if_neg q
      simp only [RunB, hf]; rw [if_neg q]; exact .stop rfl
  | @fail c n e h k =>
    intro z ps hz
    simp only [coF] at h
    refine ⟨.error e, ?_, c, n, ⟨.refl _ _, .inr ⟨e, k⟩⟩, .inr (.inl ⟨by rw [hz]; simp, e, rfl, rfl⟩)⟩
    have hf : (blAt room sum from_ c z (dec6 ps s0).2 (dec6 ps s0).1).fin = .ok (blAt room sum from_ c z (dec6 ps s0).2 (dec6 ps s0).1) := by simp only [Bl.fin, blAt, h, Bool.not_false, Bool.true_or, if_true]
    simp only [RunB, hf]
    have hs : c.step (L.drop n) = .error e := by
      simp only [coS] at k; split at k
      · cases k; assumption
      · cases k
    refine .fail rfl ?_
    simp only [Bl.step, Bl.go, blAt, Rw.waits, Nat.lt_irrefl, decide_false, Bool.or_false, Bool.not_true, Bool.false_eq_true, if_false, Rw.step, hs]; rfl
  | @more c c' n k rc h q m ih =>
    intro z ps hz
    simp only [coF] at h
    have hf : (blAt room sum from_ c z (dec6 ps s0).2 (dec6 ps s0).1).fin = .ok (blAt room sum from_ c z (dec6 ps s0).2 (dec6 ps s0).1) := by simp only [Bl.fin, blAt, h, Bool.not_false, Bool.true_or, if_true]
    have q0 := q
    simp only [coS] at q
    split at q
    · cases q
    · rename_i c1 o k1 hs
      cases q
      have hok := (Co.step_ok hs).2
      cases o with
      | none =>
        obtain ⟨r, i1, t, m', ⟨i2, i3⟩, i4⟩ := ih z ps (by rw [hok.2]; exact hz)
        refine ⟨r, ?_, t, m', ⟨.more h q0 i2, i3⟩, i4⟩
        simp only [RunB, hf]
        refine RunB.go (b1 := blAt room sum from_ c' z (dec6 ps s0).2 (dec6 ps s0).1) (k := k) rfl ?_ i1
        simp only [Bl.go, blAt, Rw.waits, Nat.lt_irrefl, decide_false, Bool.or_false, Bool.not_true, Bool.false_eq_true, if_false, Rw.step, hs]; rfl
      | some s =>
        cases hp : z.put s with
        | error e =>
          have hn : putsL z0 c'.out = none := by rw [hok.2, putsL_snoc, hz]; simp only [Option.bind_some, hp]
          obtain ⟨t, m', ⟨i2, i3⟩, _⟩ := m.last
          refine ⟨.error 25, ?_, t, m', ⟨.more h q0 i2, i3⟩, .inl ⟨?_, rfl⟩⟩
          · simp only [RunB, hf]
            refine .fail rfl ?_
            simp only [Bl.step, Bl.go, blAt, Rw.waits, Nat.lt_irrefl, decide_false, Bool.or_false, Bool.not_true, Bool.false_eq_true, if_false, Rw.step, hs, hp]; rfl
          · obtain ⟨w, hw⟩ := coOut i2
            rw [hw, putsL_app, hn]; rfl
        | ok y =>
          obtain ⟨z', d, p⟩ := y
          obtain ⟨r, i1, t, m', ⟨i2, i3⟩, i4⟩ := ih z' (ps ++ places d p) (by rw [hok.2, putsL_snoc, hz]; simp only [Option.bind_some, hp])
          refine ⟨r, ?_, t, m', ⟨.more h q0 i2, i3⟩, i4⟩
          simp only [RunB, hf]
          refine RunB.go (b1 := ⟨room, true, sum, from_, (dec6 ps s0).1, some ⟨c', z', (dec6 ps s0).2, d, p⟩, false⟩) (k := k) rfl ?_ (drain _ _ ⟨c', z', (dec6 ps s0).2, d, p⟩ rfl rfl rfl rfl ?_)
          · simp only [Bl.go, blAt, Rw.waits, Nat.lt_irrefl, decide_false, Bool.or_false, Bool.not_true, Bool.false_eq_true, if_false, Rw.step, hs, hp]; rfl
          · have e : drained ⟨room, true, sum, from_, (dec6 ps s0).1, some ⟨c', z', (dec6 ps s0).2, d, p⟩, false⟩ ⟨c', z', (dec6 ps s0).2, d, p⟩ = blAt room sum from_ c' z' (dec6 (ps ++ places d p) s0).2 (dec6 (ps ++ places d p) s0).1 := by
              simp only [drained, blAt, dec6_app]
            rw [e]; exact i1
abbrev RunW (ALL : List Bool) (u : Un) (out : List Nat) (n : Nat) (r : Except Nat ((Un × List Nat) × Nat)) : Prop := Runs withStep withFin ALL (u, out) n r
theorem withFin_due {u : Un} {out : List Nat} {l : List Bool} (h : u.due ≠ 0) : withFin (u, out) l = false := by
  have : (u.due == 0) = false := by simpa using h
  simp [withFin, Un.mayEnd, this]
theorem blk_law {ALL : List Bool} {k m : Nat} {u : Un} {out : List Nat} {b0 : Bl} {r : Except Nat (Bl × Nat)} (hr : Runs Bl.step blF (ALL.drop k) b0 m r) (hu : u.due = 2) : b0.done = false →
    (∀ e, r = .error e → RunW ALL { u with block := some b0 } out (k + m) (.error (if e = 3 then 24 else e))) ∧
    (∀ b n, r = .ok (b, n) → ∀ rr, (match openR b.last b.from_ b.sum with
      | .error e => rr = .error e
      | .ok t => RunW ALL { u with block := none, last := b.last, origin := b.from_, gsum := b.sum, total := crcCom u.total b.sum, due := 1 } (out ++ t) (k + n) rr) → RunW ALL { u with block := some b0 } out (k + m) rr) := by
  have hf : ∀ b l, withFin ({ u with block := some b }, out) l = false := fun b l => withFin_due (by dsimp only; omega)
  have hst : ∀ (b : Bl) (l : List Bool), Un.step { u with block := some b } l = (match b.step l with
    | .error e => .error e
    | .ok (b', n) => if !b'.done then .ok ({ u with block := some b' }, 0, n) else .ok ({ u with block := none, last := b'.last, origin := b'.from_, gsum := b'.sum, total := crcCom u.total b'.sum, due := 1 }, 1, n)) := by
    intro b l
    simp only [Un.step, hu, Un.body]; rfl
  have hdd : ∀ m, ALL.drop (k + m) = (ALL.drop k).drop m := fun m => (List.drop_drop ..).symm
  induction hr with
  | stop h => intro hd; simp only [blF] at h; rw [hd] at h; cases h
  | @fail s m e h k' =>
    intro hd
    refine ⟨fun e' he => ?_, fun b n he => by cases he⟩
    cases he
    refine .fail (hf _ _) ?_
    simp only [withStep, hst, hdd, k']
  | @more s b' m j r h q m' ih =>
    intro hd
    cases hb : b'.done with
    | false =>
      obtain ⟨i1, i2⟩ := ih hb
      simp only [← Nat.add_assoc] at i1 i2
      have hs : withStep ({ u with block := some s }, out) (ALL.drop (k + m)) = .ok (({ u with block := some b' }, out), j) := by
        simp only [withStep, hst, hdd, q, hb]; rfl
      exact ⟨fun e he => .more (hf _ _) hs (i1 e he), fun b n he rr hh => .more (hf _ _) hs (i2 b n he rr hh)⟩
    | true =>
      have hrr : r = .ok (b', m + j) := m'.det (.stop hb)
      subst hrr
      refine ⟨fun e he => (by cases he), fun b n he rr hh => ?_⟩
      cases he
      cases ho : openR b'.last b'.from_ b'.sum with
      | error e =>
        rw [ho] at hh; simp only at hh; subst hh
        refine .fail (hf _ _) ?_
        simp only [withStep, hst, hdd, q, hb, Bool.not_true, Bool.false_eq_true, if_false, if_true, ho]
      | ok t =>
        rw [ho] at hh
        simp only [← Nat.add_assoc] at hh
        refine .more (hf _ _) (k := j) (s' := ({ u with block := none, last := b'.last, origin := b'.from_, gsum := b'.sum, total := crcCom u.total b'.sum, due := 1 }, out ++ t)) ?_ hh
        simp only [withStep, hst, hdd, q, hb, Bool.not_true, Bool.false_eq_true, if_false, if_true, ho]
def begR (l : List Bool) : Nat → Nat → Nat
  | 0, _ => 0
  | f + 1, i => if l.length < 8 * i + 8 then 24 else
      if i < 3 then (if num ((l.drop (8 * i)).take 8) ≠ [66, 90, 104].getD i 0 then 20 else begR l f (i + 1))
      else if num ((l.drop (8 * i)).take 8) < 49 ∨ 57 < num ((l.drop (8 * i)).take 8) then 20 else begR l f (i + 1)
def begun (u : Un) (l : List Bool) : Un := { u with level := num ((l.drop 24).take 8) - 48, at_ := 0, total := 0, due := 1 }
theorem beg_law {ALL : List Bool} {k : Nat} {out : List Nat} : ∀ (f i : Nat) (u : Un), i + f = 4 → 0 < f → u.due = 0 → u.at_ = i → (i = 0 → u.ended = true → (ALL.drop k).length ≠ 0) →
    (∀ rr, begR (ALL.drop k) f i = 0 → RunW ALL (begun u (ALL.drop k)) out (k + 32) rr → RunW ALL u out (k + 8 * i) rr) ∧ (begR (ALL.drop k) f i ≠ 0 → RunW ALL u out (k + 8 * i) (.error (begR (ALL.drop k) f i))) := by
  intro f
  induction f with
  | zero => intro i u _ h; omega
  | succ f ih =>
    intro i u hi _ hd ha he
    have hdd : ALL.drop (k + 8 * i) = (ALL.drop k).drop (8 * i) := (List.drop_drop ..).symm
    have hln : ((ALL.drop k).drop (8 * i)).length = (ALL.drop k).length - 8 * i := List.length_drop
    have hf : withFin (u, out) (ALL.drop (k + 8 * i)) = false := by
      simp only [withFin, Un.mayEnd, hd, ha, hdd, hln]
      by_cases q : i = 0
      · subst q
        cases hu : u.ended with
        | false => rfl
        | true => have := he rfl hu; simp at this ⊢; omega
      · simp [q]
    have hst : u.step (ALL.drop (k + 8 * i)) = u.letter ((ALL.drop k).drop (8 * i)) := by simp only [Un.step, if_pos hd, hdd]
    simp only [begR]
    by_cases h1 : (ALL.drop k).length < 8 * i + 8
    · rw [if_pos h1]
      refine ⟨fun rr q => absurd q (by decide), fun _ => .fail hf ?_⟩
      simp only [withStep, hst, Un.letter, hln]; rw [if_pos (by omega)]; rfl
    · rw [if_neg h1]
      by_cases h3 : i < 3
      · rw [if_pos h3]
        by_cases hx : num (((ALL.drop k).drop (8 * i)).take 8) = [66, 90, 104].getD i 0
        · rw [if_neg (by simpa using hx)]
          have hs : withStep (u, out) (ALL.drop (k + 8 * i)) = .ok (({ u with at_ := i + 1 }, out), 8) := by
            simp only [withStep, hst, Un.letter, hln, ha]; rw [if_neg (by omega), if_pos h3, if_pos hx]; rfl
          obtain ⟨i1, i2⟩ := ih (i + 1) { u with at_ := i + 1 } (by omega) (by omega) hd rfl (fun q => by omega)
          rw [show k + 8 * (i + 1) = k + 8 * i + 8 by omega] at i1 i2
          exact ⟨fun rr q hh => .more hf hs (i1 rr q hh), fun q => .more hf hs (i2 q)⟩
        · rw [if_pos hx]
          refine ⟨fun rr q => absurd q (by decide), fun _ => .fail hf ?_⟩
          simp only [withStep, hst, Un.letter, hln, ha]; rw [if_neg (by omega), if_pos h3, if_neg hx]; rfl
      · rw [if_neg h3]
        have e3 : i = 3 := by omega
        subst e3
        have hff : f = 0 := by omega
        subst hff
        by_cases hx : num (((ALL.drop k).drop (8 * 3)).take 8) < 49 ∨ 57 < num (((ALL.drop k).drop (8 * 3)).take 8)
        · rw [if_pos hx]
          refine ⟨fun rr q => absurd q (by decide), fun _ => .fail hf ?_⟩
          simp only [withStep, hst, Un.letter, hln, ha]; rw [if_neg (by omega), if_neg (by omega), if_pos hx]; rfl
        · rw [if_neg hx]
          refine ⟨fun rr _ hh => .more hf (k := 8) (s' := (begun u (ALL.drop k), out)) ?_ hh, fun q => absurd rfl q⟩
          simp only [withStep, hst, Un.letter, hln, ha]; rw [if_neg (by omega), if_neg (by omega), if_neg hx]; rfl
theorem num48_eq {l : List Bool} (h : 48 ≤ l.length) (v : Nat) (hv : v < 281474976710656) : num (l.take 48) = v ↔ l.take 48 = bitsN 48 v := by
  have e : (l.take 48).length = 48 := by rw [List.length_take]; omega
  constructor
  · intro q; have := bitsN_num (l.take 48); rw [e, q] at this; exact this.symm
  · intro q; rw [q, num_bitsN, Nat.mod_eq_of_lt hv]
section
variable {ALL : List Bool} {p : Nat} {u : Un} {out : List Nat} (hd : u.due = 1)
include hd
theorem magic_short (h : (ALL.drop p).length < 48) : RunW ALL u out p (.error 24) := by
  refine .fail (withFin_due (by omega)) ?_
  simp only [withStep, Un.step, hd, Un.magic, if_true]; rw [if_neg (by decide), if_pos h]; rfl
theorem magic_bad (h : 48 ≤ (ALL.drop p).length) (h1 : (ALL.drop p).take 48 ≠ bitsN 48 54156738319193) (h2 : (ALL.drop p).take 48 ≠ bitsN 48 25779555029136) : RunW ALL u out p (.error 20) := by
  refine .fail (withFin_due (by omega)) ?_
  simp only [withStep, Un.step, hd, Un.magic, if_true]
  rw [if_neg (by decide), if_neg (by omega), if_neg (fun q => h1 ((num48_eq h _ (by decide)).mp q)), if_neg (fun q => h2 ((num48_eq h _ (by decide)).mp q))]; rfl
theorem magic_block {rr : Except Nat ((Un × List Nat) × Nat)} (h : 48 ≤ (ALL.drop p).length) (h1 : (ALL.drop p).take 48 = bitsN 48 54156738319193) (k : RunW ALL { u with block := some (Bl.new (u.level * u.unit)), due := 2 } out (p + 48) rr) : RunW ALL u out p rr := by
  refine .more (withFin_due (by omega)) ?_ k
  simp only [withStep, Un.step, hd, Un.magic, if_true]
  rw [if_neg (by decide), if_neg (by omega), if_pos ((num48_eq h _ (by decide)).mpr h1)]; rfl
theorem magic_end {rr : Except Nat ((Un × List Nat) × Nat)} (h : 48 ≤ (ALL.drop p).length) (h1 : (ALL.drop p).take 48 = bitsN 48 25779555029136)
    (k : (match Un.sumS { u with due := 3 } (ALL.drop (p + 48)) with
      | .error e => rr = .error (if e = 3 then 24 else e)
      | .ok (u', _, n) => RunW ALL u' out (p + 48 + n) rr)) : RunW ALL u out p rr := by
  have h0 : num ((ALL.drop p).take 48) ≠ 54156738319193 := by
    rw [(num48_eq h 25779555029136 (by decide)).mpr h1]; decide
  refine .more (withFin_due (by omega)) (k := 48) (s' := ({ u with due := 3 }, out)) ?_ ?_
  · simp only [withStep, Un.step, hd, Un.magic, if_true]
    rw [if_neg (by decide), if_neg (by omega), if_neg h0, if_pos ((num48_eq h _ (by decide)).mpr h1)]; rfl
  · have hst : Un.step { u with due := 3 } (ALL.drop (p + 48)) = Un.sumS { u with due := 3 } (ALL.drop (p + 48)) := by
      simp only [Un.step]; rw [if_neg (by decide), if_neg (by decide), if_neg (by decide)]
    cases hs : Un.sumS { u with due := 3 } (ALL.drop (p + 48)) with
    | error e =>
      rw [hs] at k; simp only at k; subst k
      exact .fail (withFin_due (show (3 : Nat) ≠ 0 by decide)) (by simp only [withStep, hst, hs])
    | ok y =>
      obtain ⟨u', w, n⟩ := y
      rw [hs] at k
      refine .more (withFin_due (show (3 : Nat) ≠ 0 by decide)) (k := n) (s' := (u', out)) ?_ k
      have hw : w = 2 := by
        simp only [Un.sumS] at hs
        repeat' split at hs
        all_goals first | (cases hs; done) | (cases hs; rfl)
      simp only [withStep, hst, hs, hw]; rw [if_neg (by decide)]
end
theorem txt_eq : ∀ {a b : List Nat}, (∀ x ∈ a, x < 256) → (∀ x ∈ b, x < 256) → ((txt a).toList == (txt b).toList) = (a == b) := by
  have key : ∀ {a b : List Nat}, (∀ x ∈ a, x < 256) → (∀ x ∈ b, x < 256) → a.map UInt8.ofNat = b.map UInt8.ofNat → a = b := by
    intro a
    induction a with
    | nil => intro b _ _ h; cases b with
      | nil => rfl
      | cons y b => simp at h
    | cons x a ih =>
      intro b ha hb h
      cases b with
      | nil => simp at h
      | cons y b =>
        simp only [List.map_cons, List.cons.injEq] at h
        have hx := ha x (by simp)
        have hy := hb y (by simp)
        have e : x = y := by
          have := congrArg UInt8.toNat h.1
          simpa [UInt8.toNat_ofNat, Nat.mod_eq_of_lt hx, Nat.mod_eq_of_lt hy] using this
        rw [e, ih (fun z hz => ha z (by simp [hz])) (fun z hz => hb z (by simp [hz])) h.2]
  intro a b ha hb
  rw [Bool.eq_iff_iff]
  simp only [beq_iff_eq, Go.ByteArray.toList_eq]
  constructor
  · intro h; exact key ha hb (by simpa [txt] using h)
  · rintro rfl; rfl
theorem symsL {s : List Nat} (hA : Asc s) (h256 : ∀ x ∈ s, x < 256) : (List.range 256).filter s.contains = s := by
  have h : ∀ n, Asc ((List.range n).filter s.contains) := by
    intro n; induction n with
    | zero => trivial
    | succ n ih =>
      rw [List.range_succ, List.filter_append]
      refine ih.append ?_ (fun x hx y hy => ?_)
      · simp only [List.filter_cons, List.filter_nil]; split <;> simp [Asc]
      · simp at hx hy; omega
  exact (h 256).ext hA (fun x => by simp; exact fun q => h256 x q)
theorem dec6_len : ∀ {l o : List Nat}, (∀ x ∈ l, x < o.length) → (dec6 l o).1.length = l.length ∧ (dec6 l o).2.length = o.length
  | [], o, _ => ⟨rfl, rfl⟩
  | p :: l, o, h => by
    have hm : (moved o p).length = o.length := moved_len (h p (by simp))
    have := dec6_len (l := l) (o := moved o p) (fun x q => by rw [hm]; exact h x (by simp [q]))
    simp only [dec6, List.length_cons, this.1, this.2, hm]; exact ⟨trivial, trivial⟩
section
variable {ov : OvT} (H : OvH ov)
include H
theorem rThere_cr {h : Heap} {c b : Nat} {s : List Nat} (h256 : ∀ x ∈ s, x < 256) (hn : s.length ≤ 1000000) :
    CR Tryz.prog ov 187 [.string (txt s), nv b] ⟨h, c⟩ (fun w st => w = .bool (s.contains b) ∧ Same h c st) := by
  have hsz := txt_size s
  refine e_2 Tryz.func187 rfl (H _ (by decide)) Tryz.ntmps187 (by decide) ?_
  intro env hl
  refine sg 1 rfl (qA hl rfl (nK (rS (sg 1 rfl (qA hl rfl (nK (rB ?_)))))))
  refine rL (fun m env' s' => ∃ j, m = s.length - j ∧ j ≤ s.length ∧ b ∉ s.take j ∧ Hd 18 [(0, .string (txt s)), (1, nv b), (5, nv j)] env' ∧ s'.heap = h ∧ c ≤ s'.ctr) s.length ?_ ?_
  · exact ⟨0, rfl, Nat.zero_le _, by simp, Ho hl ⟨rfl, rfl, rfl, trivial⟩, rfl, by dsimp only; omega⟩
  rintro m _ ⟨h2, c2⟩ ⟨j, rfl, hj, hno, ⟨env, hl, rfl⟩, he, hc2⟩
  dsimp only at he hc2
  subst he
  refine rS (sg 4 rfl (qM hl rfl (qM hl rfl (qK hl rfl Tryz.underlying9 ?_))))
  rw [hsz]
  refine qB hl rfl rfl rfl (nK ?_)
  refine rC hl rfl (fun hjn => ?_) (fun hjn => ?_)
  · try simp only [dz, dy] at hjn
    obtain ⟨x, hx⟩ : ∃ x, s[j]? = some x := ⟨_, List.getElem?_eq_getElem (by omega)⟩
    have hx2 := h256 x (List.mem_of_getElem? hx)
    have hxn : (UInt8.ofNat x).toNat = x := by simp [UInt8.toNat_ofNat, Nat.mod_eq_of_lt hx2]
    refine rK (kN (rS (rB (sg 6 rfl (qM hl rfl (qM hl rfl (qJ hl rfl rfl Tryz.underlying9 (by omega) (txt_get hx) ?_)))))))
    simp only [hxn]
    refine qH hl rfl Tryz.underlying5 Tryz.underlying3 (by first | exact wI (by omega) | exact wU (by omega) | exact wB (by omega) | exact wL (by omega) | rfl) ?_
    refine qM hl rfl (qB hl rfl rfl rfl (nK ?_))
    refine rC hl rfl (fun heq => ?_) (fun heq => ?_)
    · try simp only [dz, dy] at heq
      refine sg 1 rfl (qA hl rfl (nK (rR (k_bloR (kR (kR (k_bloR (kR (f_1 hl rfl (.inl rfl) rfl ?_)))))))))
      have e : x = b := by omega
      subst e
      exact ⟨by rw [List.contains_iff_mem.mpr (List.mem_of_getElem? hx)], rfl, by dsimp only; omega⟩
    · try simp only [dz, dy] at heq
      refine rK (kO (kN (rg 3 rfl (qM hl rfl (qP hl rfl rfl (by first | exact wI (by omega) | exact wU (by omega) | exact wB (by omega) | exact wL (by omega) | rfl) ?_)))))
      refine qA hl rfl (nK ?_)
      exact ⟨s.length - (j + 1), by omega, j + 1, rfl, by omega, by rw [List.take_add_one, hx]; simp only [Option.toList_some, List.mem_append, List.mem_singleton, not_or]; exact ⟨hno, by omega⟩, Ho hl ⟨rfl, rfl, rfl, trivial⟩, rfl, by dsimp only; omega⟩
  · try simp only [dz, dy] at hjn
    refine r_exit (kE (kE (kB (kN (sg 1 rfl (qA hl rfl (nK (rR (f_1 hl rfl (.inl rfl) rfl ?_)))))))))
    have ej : j = s.length := by omega
    subst ej
    rw [List.take_length] at hno
    have e3 : s.contains b = false := by simpa using hno
    exact ⟨by rw [e3], rfl, by dsimp only; omega⟩
theorem rSymbols_cr {h : Heap} {c : Nat} {s : List Nat} (h256 : ∀ x ∈ s, x < 256) (hn : s.length ≤ 1000000) :
    CR Tryz.prog ov 165 [.string (txt s)] ⟨h, c⟩ (fun w st => w = .string (txt ((List.range 256).filter s.contains)) ∧ Keep [] h c st) := by
  refine e_1 Tryz.func165 rfl (H _ (by decide)) Tryz.ntmps165 (by decide) ?_
  intro env hl
  refine sg 1 rfl (qA hl rfl (nK (sg 1 rfl (qA hl rfl (nK (rS (sg 1 rfl (qM hl rfl (nK (rB ?_))))))))))
  refine rL (fun m env' s' => ∃ j, m = 256 - j ∧ j ≤ 256 ∧ Hd 19 [(0, .string (txt s)), (3, .string (txt ((List.range j).filter s.contains))), (5, nv j)] env' ∧ c ≤ s'.ctr ∧ Keep [] h c s') 256 ?_ ?_
  · exact ⟨0, rfl, by omega, Ho hl ⟨rfl, rfl, rfl, trivial⟩, by dsimp only; omega, (Keep.refl (Nat.le_refl c)).up (by omega)⟩
  rintro m _ ⟨h2, c2⟩ ⟨j, rfl, hj, ⟨env, hl, rfl⟩, hc2, hK⟩
  dsimp only at hc2
  refine sg 1 rfl (qB hl rfl rfl rfl (nK (rS ?_)))
  refine rC hl rfl (fun hj6 => ?_) (fun hj6 => ?_)
  · try simp only [dz, dy] at hj6
    have hfs : (List.range (j + 1)).filter s.contains = (List.range j).filter s.contains ++ (if s.contains j = true then [j] else []) := by rw [List.range_succ, List.filter_append]; simp only [List.filter_cons, List.filter_nil]
    have hfl : ((List.range j).filter s.contains).length ≤ j := Nat.le_trans (List.length_filter_le _ _) (by simp)
    refine rK (kN (rS (rB (sg 2 rfl (qM hl rfl (qA hl rfl (nK (sg 3 rfl (qM hl rfl (qM hl rfl (qC hl rfl (CR.mono (rThere_cr H h256 hn) ?_))))))))))))
    rintro v ⟨hh1, cc1⟩ ⟨rfl, rfl, hk⟩
    try dsimp only at hk
    refine nK ?_
    refine rC hl rfl (fun hin => ?_) (fun hin => ?_)
    · try simp only [dz, dy] at hin
      have hxn : (UInt8.ofNat j).toNat = j := by simp [UInt8.toNat_ofNat]; omega
      refine rg 7 rfl (qM hl rfl (qM hl rfl (qH hl rfl Tryz.underlying3 Tryz.underlying5 (m := ((j : Nat) : Int)) (wrapU8 (by omega) (by omega)) ?_)))
      refine q1_ hl rfl a102 rfl (qY hl rfl Tryz.underlying102 Tryz.underlying9 Tryz.underlying5 (bs := [UInt8.ofNat j]) (.inr ⟨_, rfl, rfl, by simp only [List.map_cons, List.map_nil, hxn]; exact (T.get_set _ _ _ _).trans (if_pos rfl), by simp, by omega⟩) ?_)
      refine qB hl rfl rfl (addS ((List.range j).filter s.contains) [j] (by simp only [List.length_cons, List.length_nil]; omega)) ?_
      refine qA hl rfl (rN (kO (kN (rg 2 rfl (qP hl rfl rfl (by first | exact wI (by omega) | exact wU (by omega) | exact wB (by omega) | exact wL (by omega) | rfl) ?_)))))
      refine qM hl rfl (nK ?_)
      exact ⟨256 - (j + 1), by omega, j + 1, rfl, by omega, Ho hl ⟨rfl, by rw [hfs, if_pos hin]; rfl, rfl, trivial⟩, by dsimp only; omega, (hK.set (.inl (by omega))).up (by omega)⟩
    · try simp only [dz, dy] at hin
      refine rK (kO (kN (rg 2 rfl (qP hl rfl rfl (by first | exact wI (by omega) | exact wU (by omega) | exact wB (by omega) | exact wL (by omega) | rfl) ?_))))
      refine qM hl rfl (nK ?_)
      exact ⟨256 - (j + 1), by omega, j + 1, rfl, by omega, Ho hl ⟨rfl, by rw [hfs, if_neg (by rw [hin]; decide), List.append_nil]; rfl, rfl, trivial⟩, by dsimp only; omega, hK.up (by omega)⟩
  · try simp only [dz, dy] at hj6
    refine r_exit (kE (kE (kB (kN (sg 2 rfl (qM hl rfl (qA hl rfl (nK (rR (f_1 hl rfl (.inl rfl) rfl ?_))))))))))
    have ej : j = 256 := by omega
    subst ej
    exact ⟨rfl, hK.up (by omega)⟩
theorem rIs_cr {h : Heap} {c : Nat} {s : List Nat} (hA : Asc s) (h256 : ∀ x ∈ s, x < 256) (hne : s ≠ []) (hn : s.length ≤ 256) :
    CR Tryz.prog ov 180 [.string (txt s)] ⟨h, c⟩ (fun w st => w = .bool true ∧ Keep [] h c st) := by
  have hsz := txt_size s
  have hpos : 0 < s.length := by cases s with | nil => exact absurd rfl hne | cons a s => simp
  refine e_1 Tryz.func180 rfl (H _ (by decide)) Tryz.ntmps180 (by decide) ?_
  intro env hl
  refine sg 1 rfl (qA hl rfl (nK (sg 10 rfl (qM hl rfl (qK hl rfl Tryz.underlying9 ?_)))))
  rw [hsz]
  refine qB hl rfl rfl rfl (qM hl rfl (qG hl rfl rfl rfl (by simp; omega) ?_))
  refine qM hl rfl (qG hl rfl rfl rfl (by simp; omega) ?_)
  refine qC hl rfl (CR.mono (rSymbols_cr H h256 (by omega)) ?_)
  rintro v ⟨hh1, cc1⟩ ⟨rfl, hK⟩
  refine qG hl rfl rfl rfl (by simp; omega) ?_
  refine qM hl rfl (qG hl rfl rfl rfl (by simp; omega) ?_)
  refine qB hl rfl rfl rfl (qQ hl rfl rfl rfl (if_pos (by simp; omega)) ?_)
  refine qA hl rfl (nK (rR (f_1 hl rfl (.inl rfl) rfl ?_)))
  refine ⟨?_, (hK.base (by omega)).up (by have := hK.1; dsimp only at *; omega)⟩
  rw [symsL hA h256]; simp
theorem rDec6_cr {h : Heap} {c n cp : Nat} {l s : List Nat} {a : Option Addr} (hS : SlR 3 1 (l.map nv) a n cp h.get) (hc : ∀ z ∈ own a, z < c) (hA : Asc s) (h256 : ∀ x ∈ s, x < 256) (hne : s ≠ []) (hs : s.length ≤ 256) (hn : n ≤ 1000000) (hx : ∀ x ∈ l, x < s.length) :
    CR Tryz.prog ov 149 [.slice a n cp, .string (txt s)] ⟨h, c⟩ (fun v st => v = .tuple #[.string (txt (dec6 l s).1), nv 0] ∧ Keep [] h c st) := by
  have hln : l.length = n := by have := hS.len; simpa using this
  refine e_2 Tryz.func149 rfl (H _ (by decide)) Tryz.ntmps149 (by decide) ?_
  intro env hl
  refine sg 2 rfl (qA hl rfl (qA hl rfl (nK (rS (sg 3 rfl (qM hl rfl (qC hl rfl (CR.mono (rIs_cr H hA h256 hne hs) ?_))))))))
  rintro v ⟨hh1, cc1⟩ ⟨rfl, hK⟩
  refine q_un hl rfl rfl (nK (rF hl rfl (by rfl) ?_))
  refine rK (kN (sg 1 rfl (qA hl rfl (nK (sg 2 rfl (qM hl rfl (qA hl rfl (nK (rS (sg 3 rfl ?_))))))))))
  have hcc1 := hK.1
  dsimp only at hcc1
  refine qM hl rfl (q_lenL hl rfl Tryz.underlying171 (qM hl rfl (nK (rB ?_))))
  refine rL (fun m env' s' => ∃ j, m = n - j ∧ j ≤ n ∧ Hd 40 [(14, .slice a n cp), (15, nv n), (16, nv j), (6, .string (txt (dec6 (l.take j) s).1)), (7, .string (txt (dec6 (l.take j) s).2))] env' ∧ s'.heap = hh1 ∧ cc1 ≤ s'.ctr) n ?_ ?_
  · exact ⟨0, rfl, Nat.zero_le _, Ho hl ⟨rfl, rfl, rfl, rfl, rfl, trivial⟩, rfl, by dsimp only; omega⟩
  rintro m _ ⟨h2, c2⟩ ⟨j, rfl, hj, ⟨env, hl, rfl⟩, he, hc2⟩
  dsimp only at he hc2
  subst he
  refine sg 1 rfl (qB hl rfl rfl rfl (nK (rS ?_)))
  refine rC hl rfl (fun hjn => ?_) (fun hjn => ?_)
  · try simp only [dz, dy] at hjn
    obtain ⟨x, hx1⟩ : ∃ x, l[j]? = some x := ⟨_, List.getElem?_eq_getElem (by omega)⟩
    have hx2 := hx x (List.mem_of_getElem? hx1)
    have hS2 := hS.move (g' := h2.get) (fun z hz => hK.2 z (by have := hc z hz; omega) (by simp))
    obtain ⟨mb, rfl, rfl, hmb⟩ := hS2.pos (by omega)
    have hdl := dec6_len (l := l.take j) (o := s) (fun x q => hx x (List.mem_of_mem_take q))
    rw [List.length_take] at hdl
    obtain ⟨o, ho⟩ : ∃ o, o = (dec6 (l.take j) s).2 := ⟨_, rfl⟩
    obtain ⟨u, hu⟩ : ∃ u, u = (dec6 (l.take j) s).1 := ⟨_, rfl⟩
    have hd1 : dec6 (l.take (j + 1)) s = (u ++ [o.getD x 0], moved o x) := by rw [List.take_add_one, hx1, dec6_app, ← ho, ← hu]; rfl
    rw [← ho, ← hu] at hdl
    rw [← ho, ← hu]
    have hsz := txt_size o
    obtain ⟨y, hy⟩ : ∃ y, o[x]? = some y := ⟨_, List.getElem?_eq_getElem (by omega)⟩
    have hyD : o.getD x 0 = y := by rw [List.getD_eq_getElem?_getD, hy]; rfl
    refine rK (kN (rS (rB (sg 3 rfl (qI hl rfl rfl e171 ⟨by omega, by omega⟩ ?_)))))
    refine qL hl rfl (by assumption) ((p3.1 _ _).trans (by simp [hx1])) (v := nv x) ?_
    have h1 : decide ((x : Int) < 0) = false := by simp
    refine qA hl rfl (nK (rS (sg 8 rfl (qM hl rfl (qB hl rfl rfl rfl (qM hl rfl (qG hl rfl rfl rfl h1 (qM hl rfl (qG hl rfl rfl rfl h1 (qM hl rfl (qG hl rfl rfl rfl h1 (qK hl rfl Tryz.underlying9 (qG hl rfl rfl rfl h1 ?_)))))))))))))
    rw [hsz]
    refine qB hl rfl rfl rfl (qQ hl rfl rfl rfl (if_neg (by rw [h1]; decide)) ?_)
    refine nK (rF hl rfl (by first | rfl | (simp only [dz]; omega) | (simp; done) | (simp; omega)) ?_)
    refine rK (kN (sg 8 rfl (qM hl rfl (qM hl rfl (qM hl rfl (qM hl rfl (qP hl rfl rfl (by first | exact wI (by omega) | exact wU (by omega) | exact wB (by omega) | exact wL (by omega) | rfl) ?_)))))))
    refine qT (s := o) x (x + 1) hl rfl Tryz.underlying9 rfl rfl ⟨by omega, by omega⟩ ?_
    simp only [take1 hy]
    refine qB hl rfl rfl (addS u [y] (by simp only [List.length_cons, List.length_nil]; omega)) ?_
    refine qA hl rfl (nK (rg 4 rfl (qM hl rfl (qM hl rfl (qC hl rfl (CR.mono (rTouch_cr H (l := o) (i := x) (by omega) (by omega)) ?_))))))
    rintro v ⟨hh2, cc2⟩ ⟨rfl, rfl, hk⟩
    try dsimp only at hk
    refine qA hl rfl (rN (kO (kN (rg 2 rfl (qP hl rfl rfl (by first | exact wI (by omega) | exact wU (by omega) | exact wB (by omega) | exact wL (by omega) | rfl) ?_)))))
    refine qM hl rfl (nK ?_)
    exact ⟨n - (j + 1), by omega, j + 1, rfl, by omega, Ho hl ⟨rfl, rfl, rfl, by rw [hd1, hyD]; rfl, by rw [hd1]; rfl, trivial⟩, rfl, by dsimp only; omega⟩
  · try simp only [dz, dy] at hjn
    refine r_exit (kE (kE (kB (kN (sg 3 rfl (qM hl rfl (qA hl rfl (qA hl rfl (nK (rR (f_2 hl rfl (.inl rfl) rfl rfl ?_)))))))))))
    have ej : j = n := by omega
    subst ej
    rw [List.take_of_length_le (by omega)]
    exact ⟨rfl, (hK.base (by omega)).up (by omega)⟩
end
end Go.Proofs.YtegjkhgaoabfcaaGreat
namespace Go.AE
theorem ro_gen {P : Program} {ov : OvT} {ops : Array Oper} {c0 i c : Nat} {l : List Oper} {env : Env} {h : Heap} {sn : List (Nat × Heap)} {md : Heap} {Q : RS → Prop} (k : ∀ H2, H2 = h → RO P ov ops c0 l i ⟨env, ⟨H2, c⟩, sn, md⟩ Q) :
    RO P ov ops c0 l i ⟨env, ⟨h, c⟩, sn, md⟩ Q := k h rfl
end Go.AE
namespace Go.Proofs.YtegjkhgaoabfcaaGreat
open Go.AE
def valF (row : List Nat) : Nat × Nat := row.foldl (fun p c => (p.1 + p.2 + c * p.2, 2 * p.2)) (0, 1)
theorem valF_snoc (a : List Nat) (c : Nat) : valF (a ++ [c]) = ((valF a).1 + (valF a).2 + c * (valF a).2, 2 * (valF a).2) := by simp [valF]
theorem valF_le {row : List Nat} (h : ∀ x ∈ row, x < 2) : (valF row).2 = 2 ^ row.length ∧ (valF row).1 + 2 ≤ 2 * 2 ^ row.length := by
  have key : ∀ (row : List Nat) (p : Nat × Nat), (∀ x ∈ row, x < 2) → (row.foldl (fun p c => (p.1 + p.2 + c * p.2, 2 * p.2)) p).2 = p.2 * 2 ^ row.length ∧ (row.foldl (fun p c => (p.1 + p.2 + c * p.2, 2 * p.2)) p).1 + 2 * p.2 ≤ p.1 + 2 * (p.2 * 2 ^ row.length) := by
    intro row
    induction row with
    | nil => intro p _; simp
    | cons x row ih =>
      intro p hp
      have hx := hp x (by simp)
      have hxw : x * p.2 ≤ p.2 := by rcases (by omega : x = 0 ∨ x = 1) with q | q <;> simp [q]
      obtain ⟨i1, i2⟩ := ih (p.1 + p.2 + x * p.2, 2 * p.2) (fun y hy => hp y (by simp [hy]))
      have e : 2 * p.2 * 2 ^ row.length = p.2 * 2 ^ (row.length + 1) := by rw [Nat.pow_succ, Nat.mul_comm 2 p.2, Nat.mul_assoc, Nat.mul_comm 2]
      simp only [List.foldl_cons, List.length_cons]
      simp only [e] at i1 i2
      exact ⟨i1, by omega⟩
  have := key row (0, 1) h
  simpa [valF] using this
theorem Ze.put_good {z z' : Ze} {s d p : Nat} (hg : z.good) (h : z.put s = .ok (z', d, p)) : z'.good ∧ z'.n = z.n ∧ z'.most = z.most := by
  obtain ⟨g1, g2, g3, g4, g5⟩ := hg
  simp only [Ze.put] at h
  split at h
  · split at h
    · cases h
    · cases h
      refine ⟨⟨g1, g2, g3, by dsimp only; omega, ?_⟩, rfl, rfl⟩
      dsimp only; rw [Nat.mul_add]; omega
  · split at h
    · cases h; exact ⟨⟨g1, g2, g3, by dsimp only; omega, by dsimp only; omega⟩, rfl, rfl⟩
    · split at h
      · cases h
      · cases h; exact ⟨⟨g1, g2, g3, by dsimp only; omega, by dsimp only; omega⟩, rfl, rfl⟩
def ZrR (z : Ze) (row : List Nat) (a : Option Addr) (cp : Nat) (g : Nat → Option Blk) : Prop :=
  z.good ∧ z.most ≤ 1000000 ∧ (∀ x ∈ row, x < 2) ∧ valF row = (z.zeros, z.weight) ∧ SlR 3 1 (row.map nv) a row.length cp g
theorem ZrR.move {z : Ze} {row : List Nat} {a : Option Addr} {cp : Nat} {g g' : Nat → Option Blk} (h : ZrR z row a cp g) (hg : ∀ x ∈ own a, g' x = g x) : ZrR z row a cp g' :=
  ⟨h.1, h.2.1, h.2.2.1, h.2.2.2.1, h.2.2.2.2.move hg⟩
theorem ZrR.len {z : Ze} {row : List Nat} {a : Option Addr} {cp : Nat} {g : Nat → Option Blk} (h : ZrR z row a cp g) : row.length ≤ 20 := by
  obtain ⟨⟨g1, g2, g3, g4, g5⟩, h2, h3, h4, _⟩ := h
  have := (valF_le h3).1
  rw [h4] at this; dsimp only at this
  rcases Nat.lt_or_ge 20 row.length with q | q
  · have h5 : 2 ^ 20 ≤ 2 ^ row.length := Nat.pow_le_pow_right (by omega) (by omega)
    omega
  · exact q
def zrV (z : Ze) (row : List Nat) (a : Option Addr) (cp : Nat) : List Value := [nv z.n, nv z.most, nv z.told, .slice a row.length cp, .bool z.done]
section
variable {ov : OvT} (H : OvH ov)
include H
theorem rValue_cr {h : Heap} {c n cp : Nat} {row : List Nat} {a : Option Addr} (hS : SlR 3 1 (row.map nv) a n cp h.get) (hn : n ≤ 30) (hx : ∀ x ∈ row, x < 2) :
    CR Tryz.prog ov 204 [.slice a n cp] ⟨h, c⟩ (fun v st => v = nv (valF row).1 ∧ Same h c st) := by
  have hln : row.length = n := by have := hS.len; simpa using this
  refine e_1 Tryz.func204 rfl (H _ (by decide)) Tryz.ntmps204 (by decide) ?_
  intro env hl
  refine sg 1 rfl (qA hl rfl (nK (sg 1 rfl (qA hl rfl (nK (sg 1 rfl (qA hl rfl (nK (rS (sg 3 rfl (qM hl rfl (q_lenL hl rfl Tryz.underlying171 (qM hl rfl (nK (rB ?_)))))))))))))))
  refine rL (fun m env' s' => ∃ j, m = n - j ∧ j ≤ n ∧ Hd 26 [(7, .slice a n cp), (8, nv n), (9, nv j), (3, nv (valF (row.take j)).1), (4, nv (valF (row.take j)).2)] env' ∧ s'.heap = h ∧ c ≤ s'.ctr) n ?_ ?_
  · exact ⟨0, rfl, Nat.zero_le _, Ho hl ⟨rfl, rfl, rfl, rfl, rfl, trivial⟩, rfl, by dsimp only; omega⟩
  rintro m _ ⟨h2, c2⟩ ⟨j, rfl, hj, ⟨env, hl, rfl⟩, he, hc2⟩
  dsimp only at he hc2
  subst he
  refine sg 1 rfl (qB hl rfl rfl rfl (nK (rS ?_)))
  refine rC hl rfl (fun hjn => ?_) (fun hjn => ?_)
  · try simp only [dz, dy] at hjn
    obtain ⟨x, hx1⟩ : ∃ x, row[j]? = some x := ⟨_, List.getElem?_eq_getElem (by omega)⟩
    have hx2 := hx x (List.mem_of_getElem? hx1)
    have hb := valF_le (row := row.take j) (fun x q => hx x (List.mem_of_mem_take q)); rw [List.length_take, Nat.min_eq_left (by omega)] at hb
    have hp : 2 ^ j ≤ 2 ^ 30 := Nat.pow_le_pow_right (by omega) (by omega)
    have htk : valF (row.take (j + 1)) = ((valF (row.take j)).1 + (valF (row.take j)).2 + x * (valF (row.take j)).2, 2 * (valF (row.take j)).2) := by rw [List.take_add_one, hx1]; exact valF_snoc _ _
    obtain ⟨w, hw⟩ : ∃ w, w = (valF (row.take j)).2 := ⟨_, rfl⟩
    obtain ⟨m0, hm0⟩ : ∃ w, w = (valF (row.take j)).1 := ⟨_, rfl⟩
    rw [← hw, ← hm0] at htk hb
    rw [← hw, ← hm0]
    have hxw : x * w ≤ w := by rcases (by omega : x = 0 ∨ x = 1) with q | q <;> simp [q]
    obtain ⟨mb, rfl, rfl, hmb⟩ := hS.pos (by omega)
    refine rK (kN (rS (rB (sg 3 rfl (qI hl rfl rfl e171 ⟨by omega, by omega⟩ ?_)))))
    refine qL hl rfl (by assumption) ((p3.1 _ _).trans (by simp [hx1])) (v := nv x) ?_
    refine qA hl rfl (nK (rS (sg 2 rfl (qM hl rfl (qB hl rfl rfl rfl (nK (rF hl rfl (by first | rfl | (simp only [dz]; omega) | (simp; done) | (simp; omega)) ?_)))))))
    refine rK (kN (sg 8 rfl (qM hl rfl (qM hl rfl (qP hl rfl rfl (by first | exact wI (by omega) | exact wU (by omega) | exact wB (by omega) | exact wL (by omega) | rfl) ?_)))))
    refine qM hl rfl (qM hl rfl (q_mul hl rfl rfl (m := ((x * w : Nat) : Int)) (by rw [← Int.natCast_mul]; exact wrapI (by omega) (by omega)) ?_))
    refine qP hl rfl rfl (by first | exact wI (by omega) | exact wU (by omega) | exact wB (by omega) | exact wL (by omega) | rfl) ?_
    refine qA hl rfl (nK (rg 3 rfl (qM hl rfl (q_mul hl rfl rfl (by first | exact wI (by omega) | exact wU (by omega) | exact wB (by omega) | exact wL (by omega) | rfl) ?_))))
    refine qA hl rfl (rN (kO (kN (rg 2 rfl (qP hl rfl rfl (by first | exact wI (by omega) | exact wU (by omega) | exact wB (by omega) | exact wL (by omega) | rfl) ?_)))))
    refine qM hl rfl (nK ?_)
    exact ⟨n - (j + 1), by omega, j + 1, rfl, by omega, Ho hl ⟨rfl, rfl, rfl, by rw [htk]; rfl, by rw [htk]; rfl, trivial⟩, rfl, by dsimp only; omega⟩
  · try simp only [dz, dy] at hjn
    refine r_exit (kE (kE (kB (kN (sg 2 rfl (qM hl rfl (qA hl rfl (nK (rR (f_1 hl rfl (.inl rfl) rfl ?_))))))))))
    have ej : j = n := by omega
    subst ej
    rw [List.take_of_length_le (by omega)]
    exact ⟨rfl, rfl, by dsimp only; omega⟩
theorem rCount_cr {h : Heap} {c n cp t : Nat} {x0 x1 x4 : Value} {row : List Nat} {a : Option Addr} (hS : SlR 3 1 (row.map nv) a n cp h.get) (hc : ∀ z ∈ own a, z < c) (hn : n ≤ 30) (hx : ∀ x ∈ row, x < 2) (ht : t ≤ 2000000000) :
    CR Tryz.prog ov 203 [.agg #[x0, x1, nv t, .slice a n cp, x4]] ⟨h, c⟩ (fun v st => v = nv (t + (valF row).1) ∧ Keep [] h c st) := by
  have hln : row.length = n := by have := hS.len; simpa using this
  have hb := (valF_le hx).2
  rw [hln] at hb
  have hp : 2 ^ n ≤ 2 ^ 30 := Nat.pow_le_pow_right (by omega) hn
  refine e_1 Tryz.func203 rfl (H _ (by decide)) Tryz.ntmps203 (by decide) ?_
  intro env hl
  refine sg 2 rfl (q_box hl rfl (qA hl rfl (nK (rS (rD [(1, 5)] (by decide +kernel) (by decide +kernel) (n := 7) rfl ?_)))))
  refine qF hl rfl fa247_2 (qL hl rfl (by first | assumption | (simp only [gs]; rfl) | (simp [gs]; try rfl)) ((p3.1 _ _).trans rfl) ?_)
  refine qF hl rfl fa247_3 (qL hl rfl (by first | assumption | (simp only [gs]; rfl) | (simp [gs]; try rfl)) ((p171.1 _ _).trans rfl) ?_)
  refine qC hl rfl (CR.mono (rValue_cr H (hS.move (fun z hz => by have := hc z hz; rw [T.get_set, if_neg (by omega)])) hn hx) ?_)
  rintro v ⟨hh1, cc1⟩ ⟨rfl, rfl, hk⟩
  try dsimp only at hk
  refine qP hl rfl rfl (by first | exact wI (by omega) | exact wU (by omega) | exact wB (by omega) | exact wL (by omega) | rfl) ?_
  refine qA hl rfl ?_
  refine ro_nilp ?_ ?_
  · exact all1 (pair_load hl rfl rfl rfl rfl ((heapAt_old rfl (by omega)).trans ((T.get_set _ _ _ _).trans (if_pos rfl))) ((p3.1 _ _).trans rfl) rfl (same_int _ _))
  refine kN (rR (f_1 hl rfl (.inl rfl) rfl ?_))
  exact ⟨rfl, ((Keep.refl (Nat.le_refl c)).set (.inl (by omega))).up (by omega)⟩
theorem rPut_cr {h : Heap} {c s cp : Nat} {z : Ze} {row : List Nat} {a : Option Addr} (hZ : ZrR z row a cp h.get) (hc : ∀ x ∈ own a, x < c) (hd : z.done = false) (hs : s ≤ z.n + 1) :
    CR Tryz.prog ov 179 [.agg (zrV z row a cp).toArray, nv s] ⟨h, c⟩ (fun v st => (match z.put s with
      | .error _ => v = .agg (zrV z row a cp ++ [nv 0, nv 0, nv 2]).toArray
      | .ok (z', d, p) => ∃ row' a' cp', v = .agg (zrV z' row' a' cp' ++ [nv d, iv (if p = 0 then -1 else p), nv 0]).toArray ∧ ZrR z' row' a' cp' st.heap.get ∧ (∀ x ∈ own a', c ≤ x ∧ x < st.ctr)) ∧ Keep [] h c st) := by
  have hlen := hZ.len
  obtain ⟨hg, hm, hx, hv, hS⟩ := id hZ
  obtain ⟨g1, g2, g3, g4, g5⟩ := id hg
  have hv1 : (valF row).1 = z.zeros := by rw [hv]
  have hv2 : (valF row).2 = z.weight := by rw [hv]
  have hws : z.weight * (s + 1) = z.weight + s * z.weight := by rw [Nat.mul_add, Nat.mul_comm]; omega
  simp only [zrV, hd, List.cons_append, List.nil_append]
  refine e_2 Tryz.func179 rfl (H _ (by decide)) Tryz.ntmps179 (by decide) ?_
  intro env hl
  refine sg 2 rfl (q_box hl rfl (qZ i249 z249 rfl (nK (rS (sg 2 rfl (qF hl rfl fa247_4 (qL hl rfl (by first | assumption | (simp only [gs]; rfl) | (simp [gs]; try rfl)) ((p4.1 _ _).trans rfl) ?_)))))))
  refine nK (rF hl rfl (by rfl) ?_)
  refine rK (kN (rS (sg 9 rfl ?_)))
  have h1 : decide ((s : Int) < 0) = false := by simp
  refine qM hl rfl (qB hl rfl rfl rfl (qM hl rfl (qG hl rfl rfl rfl h1 (qM hl rfl (qG hl rfl rfl rfl h1 (qF hl rfl fa247_0 (qG hl rfl rfl rfl h1 (qL hl rfl (by first | assumption | (simp only [gs]; rfl) | (simp [gs]; try rfl)) ((p3.1 _ _).trans rfl) ?_))))))))
  refine qG hl rfl rfl rfl h1 (qP hl rfl rfl (by first | exact wI (by omega) | exact wU (by omega) | exact wB (by omega) | exact wL (by omega) | rfl) ?_)
  refine qG hl rfl rfl rfl h1 (qB hl rfl rfl rfl (qQ hl rfl rfl rfl (if_neg (by rw [h1]; decide)) ?_))
  refine nK (rF hl rfl (by first | rfl | (simp only [dz]; omega) | (simp; done) | (simp; omega)) ?_)
  refine rK (kN (sg 3 rfl (qL hl rfl (by first | assumption | (simp only [gs]; rfl) | (simp [gs]; try rfl)) ((p247.1 _ _).trans rfl) ?_)))
  refine qZ i247 z247 rfl (qV hl rfl rfl (by first | assumption | (simp only [gs]; rfl) | (simp [gs]; try rfl)) p247 rfl rfl (by simp [Value.cells]) ?_)
  refine nK (rS (sg 2 rfl ?_))
  refine ro_gen (fun H2 hH2 => ?_)
  have hb2 : H2.get c = some ⟨[nv z.n, nv z.most, nv z.told, .slice a row.length cp, .bool false], 247, 0⟩ := by rw [hH2]; simp only [T.get_set, if_true, if_false]; (repeat (first | rw [if_neg (by omega)] | rw [if_pos (by omega)])); rfl
  have hb5 : H2.get (c + 2 + 2 + 9 + 1) = some ⟨[nv z.n, nv z.most, nv z.told, .slice a row.length cp, .bool false], 247, 0⟩ := by rw [hH2]; simp only [T.get_set, if_true, if_false]; (repeat (first | rw [if_neg (by omega)] | rw [if_pos (by omega)])); rfl
  have hb4 : H2.get (c + 1) = some ⟨[nv 0, nv 0, nv 0, nilS, .bool false, nv 0, nv 0, nv 0], 249, 0⟩ := by rw [hH2]; simp only [T.get_set, if_true, if_false]; (repeat (first | rw [if_neg (by omega)] | rw [if_pos (by omega)])); rfl
  have hF : ∀ x, x < c → H2.get x = h.get x := fun x hx => by rw [hH2]; simp only [T.get_set, if_true, if_false]; (repeat (first | rw [if_neg (by omega)] | rw [if_pos (by omega)]))
  refine qM hl rfl (qB hl rfl rfl rfl (nK ?_))
  refine rC hl rfl (fun hs2 => ?_) (fun hs2 => ?_)
  · try simp only [dz, dy] at hs2
    refine sg 1 rfl (qA hl rfl (nK (sg 5 rfl (qM hl rfl (qF hl rfl fa247_3 (qL hl rfl (by first | assumption | (simp only [gs]; rfl) | (simp [gs]; try rfl)) ((p171.1 _ _).trans rfl) ?_))))))
    refine q_append hl rfl rfl a171 SlR.nil ((hS.move (fun z hz => hF z (hc z hz))).src Tryz.underlying171 (all_map_int _ _ _)) (by simp) (by omega) (by omega) ?_
    intro a2 cp2 h3 hS2 hO2 hF2
    refine qA hl rfl (nK (sg 5 rfl (qM hl rfl (qM hl rfl (q1_ hl rfl a171 rfl (qX hl rfl rfl a171 a171 (hS2.move (fun z hz => by have := hO2 z hz; rw [T.get_set, if_neg (by omega)])) ((T.get_set _ _ _ _).trans (if_pos rfl)) rfl (by omega) (by omega) ?_))))))
    intro a3 cp3 h4 hS3 hO3 hF3
    have hkp : ∀ x, x < c + 15 → h4.get x = H2.get x := fun x hx => (hF3 x (by omega) (fun m => by have := hO2 x m; omega)).trans (by rw [T.get_set, if_neg (by omega)]; exact hF2 x (by omega) (by simp [own]))
    have hb2' := (hkp c (by omega)).trans hb2
    have hb5' := (hkp (c + 2 + 2 + 9 + 1) (by omega)).trans hb5
    have hb4' := (hkp (c + 1) (by omega)).trans hb4
    have hS3' : SlR 3 1 ((row ++ [s]).map nv) a3 (0 + row.length + 1) cp3 h4.get := by rw [List.map_append]; exact hS3
    refine qA hl rfl (nK (sg 3 rfl ?_))
    skip
    refine qM hl rfl (qF hl rfl fa247_3 (qW hl rfl rfl (by first | assumption | (simp only [gs]; rfl) | (simp [gs]; try rfl)) p171 rfl rfl (by first | decide | (simp; done) | (simp; omega)) ?_))
    refine ro_gen (fun H5 hH5 => ?_)
    have hx5 : ∀ x, x ≠ c + 2 + 2 + 9 + 1 → H5.get x = h4.get x := fun x hx => by rw [hH5, T.get_set, if_neg hx]
    have hb5'' : H5.get (c + 2 + 2 + 9 + 1) = some ⟨[nv z.n, nv z.most, nv z.told, .slice a3 (0 + row.length + 1) cp3, .bool false], 247, 0⟩ := by rw [hH5, T.get_set, if_pos rfl]; rfl
    have hb2'' := (hx5 c (by omega)).trans hb2'
    have hb4'' := (hx5 (c + 1) (by omega)).trans hb4'
    have hS5 := hS3'.move (g' := H5.get) (fun x hx => hx5 x (by have := hO3 x hx; omega))
    refine nK (rS (rS (rD [(3, 0)] (by decide +kernel) (by decide +kernel) (n := 5) rfl ?_)))
    refine qL hl rfl (by first | assumption | (simp only [gs]; rfl) | (simp [gs]; try rfl)) ((p247.1 _ _).trans rfl) ?_
    refine qC hl rfl (CR.mono (rCount_cr H (row := row ++ [s]) hS5 (fun x hx => by have := hO3 x hx; omega) (by omega) (fun x hx => by rcases List.mem_append.mp hx with q | q; exact hZ.2.2.1 x q; simp at q; omega) (by omega)) ?_)
    rintro v ⟨hh1, cc1⟩ ⟨rfl, hK3⟩
    have hcc1 := hK3.1
    dsimp only at hcc1
    have hb2c := (hK3.2 c (by omega) (by simp)).trans hb2''
    have hb4c := (hK3.2 (c + 1) (by omega) (by simp)).trans hb4''
    have hb5c := (hK3.2 (c + 2 + 2 + 9 + 1) (by omega) (by simp)).trans hb5''
    have hvs : (valF (row ++ [s])).1 = z.zeros + z.weight + s * z.weight := by rw [valF_snoc, hv]
    rw [hvs]
    have hKc : Keep [] h c ⟨hh1, cc1⟩ := ⟨by dsimp only; omega, fun x hx _ => (hK3.2 x (by omega) (by simp)).trans ((hx5 x (by omega)).trans ((hkp x (by omega)).trans (hF x hx)))⟩
    refine qF hl rfl fa247_1 (qL hl rfl (by first | assumption | (simp only [gs]; rfl) | (simp [gs]; try rfl)) ((p3.1 _ _).trans rfl) ?_)
    refine qB hl rfl rfl rfl ?_
    refine ro_nilp ?_ ?_
    · exact all1 (pair_load hl rfl rfl rfl rfl ((heapAt_old rfl (by omega)).trans hb2'') ((p3.1 _ _).trans rfl) rfl (same_int _ _))
    refine kN ?_
    refine rC hl rfl (fun hov => ?_) (fun hov => ?_)
    · try simp only [dz, dy] at hov
      refine sg 3 rfl (qL hl rfl (by first | assumption | (simp only [gs]; rfl) | (simp [gs]; try rfl)) ((p247.1 _ _).trans rfl) ?_)
      refine qU hl rfl i249 z249 rfl (by simp [Program.built, Instr.fill, Tryz.underlying249, Value.cells]; rfl) ?_
      refine qV hl rfl rfl (by first | assumption | (simp only [gs]; rfl) | (simp [gs]; try rfl)) p249 rfl rfl (by simp [Value.cells]) ?_
      refine nK (rR (kR (kR (f_c hl rfl (.inl rfl) rfl  (T.get_set _ _ _ _ |>.trans (if_pos rfl)) ((p249.1 _ _).trans rfl) ?_))))
      have hq : z.put s = .error 2 := by simp only [Ze.put]; rw [if_pos (by omega), if_pos (by omega)]
      rw [hq]
      exact ⟨rfl, (hKc.set (.inl (by omega))).up (by omega)⟩
    · try simp only [dz, dy] at hov
      have hq : z.put s = .ok ({ z with zeros := z.zeros + z.weight * (s + 1), weight := 2 * z.weight }, 0, 0) := by simp only [Ze.put]; rw [if_pos (by omega), if_neg (by omega)]
      have e1 : 0 + row.length + 1 = (row ++ [s]).length := by simp
      have e1' : (row ++ [s]).length = row.length + 1 := by simp
      refine rK (kN (sg 3 rfl (qL hl rfl (by first | assumption | (simp only [gs]; rfl) | (simp [gs]; try rfl)) ((p247.1 _ _).trans rfl) ?_)))
      refine qU hl rfl i249 z249 rfl (by simp [Program.built, Instr.fill, Tryz.underlying249, Value.cells]; rfl) ?_
      refine qV hl rfl rfl (by first | assumption | (simp only [gs]; rfl) | (simp [gs]; try rfl)) p249 rfl rfl (by simp [Value.cells]) ?_
      refine nK (rR (kR (f_c hl rfl (.inl rfl) rfl  (T.get_set _ _ _ _ |>.trans (if_pos rfl)) ((p249.1 _ _).trans rfl) ?_)))
      rw [hq]
      refine ⟨⟨row ++ [s], a3, cp3, by simp only [hd, e1']; rfl, ⟨(Ze.put_good hg hq).1, hm, fun x hx => by rcases List.mem_append.mp hx with q | q; exact hZ.2.2.1 x q; simp at q; omega, by rw [valF_snoc, hv]; dsimp only; rw [hws, Nat.add_assoc], ?_⟩, fun x hx => by have := hO3 x hx; dsimp only; omega⟩, (hKc.set (.inl (by omega))).up (by omega)⟩
      rw [← e1]
      exact hS5.move (fun x hx => by have := hO3 x hx; dsimp only; rw [T.get_set, if_neg (by omega)]; exact hK3.2 x (by omega) (by simp))
  · try simp only [dz, dy] at hs2
    refine rK (kN (sg 4 rfl (qF hl rfl fa247_3 (qL hl rfl (by first | assumption | (simp only [gs]; rfl) | (simp [gs]; try rfl)) ((p171.1 _ _).trans rfl) ?_))))
    refine qC hl rfl (CR.mono (rValue_cr H (hS.move (fun z hz => hF z (hc z hz))) (by omega) hx) ?_)
    rintro v ⟨hh2, cc2⟩ ⟨rfl, rfl, hk⟩
    try dsimp only at hk
    rw [hv1]
    refine qA hl rfl (nK (sg 6 rfl (qF hl rfl fa247_2 (qL hl rfl (by first | assumption | (simp only [gs]; rfl) | (simp [gs]; try rfl)) ((p3.1 _ _).trans rfl) ?_))))
    refine qM hl rfl (qP hl rfl rfl (by first | exact wI (by omega) | exact wU (by omega) | exact wB (by omega) | exact wL (by omega) | rfl) ?_)
    refine qF hl rfl fa247_2 (qW hl rfl rfl (by first | assumption | (simp only [gs]; rfl) | (simp [gs]; try rfl)) p3 rfl rfl (by first | decide | (simp; done) | (simp; omega)) ?_)
    refine nK (sg 2 rfl ?_)
    skip
    refine qF hl rfl fa247_3 (qW hl rfl rfl (by first | assumption | (simp only [gs]; rfl) | (simp [gs]; try rfl)) p171 rfl rfl (by first | decide | (simp; done) | (simp; omega)) ?_)
    refine ro_gen (fun H7 hH7 => ?_)
    have hx7 : ∀ x, x ≠ c + 2 + 2 + 9 + 1 → H7.get x = H2.get x := fun x hx => by rw [hH7, T.get_set, if_neg hx, T.get_set, if_neg hx]
    have hb7 : H7.get (c + 2 + 2 + 9 + 1) = some ⟨[nv z.n, nv z.most, nv (z.told + z.zeros), nilS, .bool false], 247, 0⟩ := by rw [hH7, T.get_set, if_pos rfl]; rfl
    have hb2' := (hx7 c (by omega)).trans hb2
    have hb4' := (hx7 (c + 1) (by omega)).trans hb4
    have hKc : Keep [] h c ⟨H7, cc2⟩ := ⟨by dsimp only; omega, fun x hx _ => (hx7 x (by omega)).trans (hF x hx)⟩
    refine nK (rS (sg 5 rfl (qM hl rfl (qF hl rfl fa247_0 (qL hl rfl (by first | assumption | (simp only [gs]; rfl) | (simp [gs]; try rfl)) ((p3.1 _ _).trans rfl) ?_)))))
    refine qP hl rfl rfl (by first | exact wI (by omega) | exact wU (by omega) | exact wB (by omega) | exact wL (by omega) | rfl) ?_
    refine qB hl rfl rfl rfl (nK ?_)
    refine rC hl rfl (fun hend => ?_) (fun hend => ?_)
    · try simp only [dz, dy] at hend
      refine sg 2 rfl (qF hl rfl fa247_4 (qW hl rfl rfl (by first | assumption | (simp only [gs]; rfl) | (simp [gs]; try rfl)) p4 rfl rfl (by first | decide | (simp; done) | (simp; omega)) ?_))
      refine nK (sg 4 rfl ?_)
      refine ro_gen (fun H8 hH8 => ?_)
      have hb8 : H8.get (c + 2 + 2 + 9 + 1) = some ⟨[nv z.n, nv z.most, nv (z.told + z.zeros), nilS, .bool true], 247, 0⟩ := by rw [hH8, T.get_set, if_pos rfl]; rfl
      have hb48 : H8.get (c + 1) = some ⟨[nv 0, nv 0, nv 0, nilS, .bool false, nv 0, nv 0, nv 0], 249, 0⟩ := by rw [hH8, T.get_set, if_neg (by omega)]; exact hb4'
      have hK8 : Keep [] h c ⟨H8, cc2⟩ := by rw [hH8]; exact hKc.set (.inl (by omega))
      refine qL hl rfl (by first | assumption | (simp only [gs]; rfl) | (simp [gs]; try rfl)) ((p247.1 _ _).trans rfl) ?_
      refine qM hl rfl (qU hl rfl i249 z249 rfl (by simp [Program.built, Instr.fill, Tryz.underlying249, Value.cells]; rfl) ?_)
      refine qV hl rfl rfl (by first | assumption | (simp only [gs]; rfl) | (simp [gs]; try rfl)) p249 rfl rfl (by simp [Value.cells]) ?_
      refine nK (rR (kR (f_c hl rfl (.inl rfl) rfl  (T.get_set _ _ _ _ |>.trans (if_pos rfl)) ((p249.1 _ _).trans rfl) ?_)))
      have hq : z.put s = .ok ({ z with told := z.told + z.zeros, zeros := 0, weight := 1, done := true }, z.zeros, 0) := by simp only [Ze.put]; rw [if_neg (by omega), if_pos (by omega)]
      rw [hq]
      exact ⟨⟨[], none, 0, rfl, ⟨(Ze.put_good hg hq).1, hm, by simp, rfl, SlR.nil⟩, by simp [own]⟩, (hK8.set (.inl (by omega))).up (by omega)⟩
    · try simp only [dz, dy] at hend
      refine rK (kN (sg 5 rfl ?_))
      skip
      refine qF hl rfl fa247_2 (qL hl rfl (by first | assumption | (simp only [gs]; rfl) | (simp [gs]; try rfl)) ((p3.1 _ _).trans rfl) ?_)
      refine qP hl rfl rfl (by first | exact wI (by omega) | exact wU (by omega) | exact wB (by omega) | exact wL (by omega) | rfl) ?_
      refine qF hl rfl fa247_2 (qW hl rfl rfl (by first | assumption | (simp only [gs]; rfl) | (simp [gs]; try rfl)) p3 rfl rfl (by first | decide | (simp; done) | (simp; omega)) ?_)
      refine ro_gen (fun H9 hH9 => ?_)
      have hx9 : ∀ x, x ≠ c + 2 + 2 + 9 + 1 → H9.get x = H7.get x := fun x hx => by rw [hH9, T.get_set, if_neg hx]
      have hb9 : H9.get (c + 2 + 2 + 9 + 1) = some ⟨[nv z.n, nv z.most, nv (z.told + z.zeros + 1), nilS, .bool false], 247, 0⟩ := by rw [hH9, T.get_set, if_pos rfl]; rfl
      have hb29 := (hx9 c (by omega)).trans hb2'
      have hb49 := (hx9 (c + 1) (by omega)).trans hb4'
      have hK9 : Keep [] h c ⟨H9, cc2⟩ := by rw [hH9]; exact hKc.set (.inl (by omega))
      refine nK (rS (sg 5 rfl (qF hl rfl fa247_2 (qL hl rfl (by first | assumption | (simp only [gs]; rfl) | (simp [gs]; try rfl)) ((p3.1 _ _).trans rfl) ?_))))
      refine qF hl rfl fa247_1 (qL hl rfl (by first | assumption | (simp only [gs]; rfl) | (simp [gs]; try rfl)) ((p3.1 _ _).trans rfl) ?_)
      refine qB hl rfl rfl rfl (nK ?_)
      refine rC hl rfl (fun hov => ?_) (fun hov => ?_)
      · try simp only [dz, dy] at hov
        refine sg 3 rfl (qL hl rfl (by first | assumption | (simp only [gs]; rfl) | (simp [gs]; try rfl)) ((p247.1 _ _).trans rfl) ?_)
        refine qU hl rfl i249 z249 rfl (by simp [Program.built, Instr.fill, Tryz.underlying249, Value.cells]; rfl) ?_
        refine qV hl rfl rfl (by first | assumption | (simp only [gs]; rfl) | (simp [gs]; try rfl)) p249 rfl rfl (by simp [Value.cells]) ?_
        refine nK (rR (kR (f_c hl rfl (.inl rfl) rfl  (T.get_set _ _ _ _ |>.trans (if_pos rfl)) ((p249.1 _ _).trans rfl) ?_)))
        have hq : z.put s = .error 2 := by simp only [Ze.put]; rw [if_neg (by omega), if_neg (by omega), if_pos (by omega)]
        rw [hq]
        exact ⟨rfl, (hK9.set (.inl (by omega))).up (by omega)⟩
      · try simp only [dz, dy] at hov
        refine rK (kN (sg 6 rfl (qL hl rfl (by first | assumption | (simp only [gs]; rfl) | (simp [gs]; try rfl)) ((p247.1 _ _).trans rfl) ?_)))
        refine qM hl rfl (qM hl rfl (q_sub hl rfl rfl (by first | exact wI (by omega) | exact wU (by omega) | exact wB (by omega) | exact wL (by omega) | rfl) ?_))
        refine qU hl rfl i249 z249 rfl (by simp [Program.built, Instr.fill, Tryz.underlying249, Value.cells]; rfl) ?_
        refine qV hl rfl rfl (by first | assumption | (simp only [gs]; rfl) | (simp [gs]; try rfl)) p249 rfl rfl (by simp [Value.cells]) ?_
        refine nK (rR (f_c hl rfl (.inl rfl) rfl  (T.get_set _ _ _ _ |>.trans (if_pos rfl)) ((p249.1 _ _).trans rfl) ?_))
        have hq : z.put s = .ok ({ z with told := z.told + z.zeros + 1, zeros := 0, weight := 1 }, z.zeros, s - 1) := by simp only [Ze.put]; rw [if_neg (by omega), if_neg (by omega), if_neg (by omega)]
        rw [hq]
        refine ⟨⟨[], none, 0, ?_, ⟨(Ze.put_good hg hq).1, hm, by simp, rfl, SlR.nil⟩, by simp [own]⟩, (hK9.set (.inl (by omega))).up (by omega)⟩
        dsimp only; rw [if_neg (show ¬ s - 1 = 0 by omega), show ((s - 1 : Nat) : Int) = (s : Int) - 1 by omega, hd]; rfl
end
theorem putsL_pre {z : Ze} {a b : List Nat} (h : putsL z (a ++ b) ≠ none) : putsL z a ≠ none := by
  intro q; rw [putsL_app, q] at h; exact h rfl
section
variable {ov : OvT} (H : OvH ov)
include H
theorem rPutE_cr {h : Heap} {c s cp : Nat} {z : Ze} {row : List Nat} {a : Option Addr} (hZ : ZrR z row a cp h.get) (hc : ∀ x ∈ own a, x < c) (hd : z.done = false) (hs : s ≤ z.n + 1) :
    CR Tryz.prog ov 179 [.agg (zrV z row a cp).toArray, nv s] ⟨h, c⟩ (fun v st => ∃ (z1 : Ze) (row1 : List Nat) (a1 : Option Addr) (cp1 d : Nat) (pl : Int) (e : Nat), v = .agg (zrV z1 row1 a1 cp1 ++ [nv d, iv pl, nv e]).toArray ∧
      ((e = 2 ∧ ∃ e', z.put s = .error e') ∨ (e = 0 ∧ ∃ p, z.put s = .ok (z1, d, p) ∧ pl = (if p = 0 then (-1 : Int) else (p : Int)) ∧ ZrR z1 row1 a1 cp1 st.heap.get ∧ ∀ x ∈ own a1, c ≤ x ∧ x < st.ctr)) ∧ Keep [] h c st) := by
  refine (rPut_cr H hZ hc hd hs).mono ?_
  rintro v st ⟨q, k⟩
  cases hq : z.put s with
  | error e => rw [hq] at q; exact ⟨z, row, a, cp, 0, 0, 2, q, .inl ⟨rfl, e, rfl⟩, k⟩
  | ok y =>
    obtain ⟨z', d, p⟩ := y
    rw [hq] at q
    obtain ⟨row', a', cp', q1, q2, q3⟩ := q
    exact ⟨z', row', a', cp', d, _, 0, q1, .inr ⟨rfl, p, rfl, rfl, q2, q3⟩, k⟩
theorem rCodes_cr {h : Heap} {c n cp N room : Nat} {l : List Nat} {a : Option Addr} (hS : SlR 3 1 (l.map nv) a n cp h.get) (hc : ∀ z ∈ own a, z < c) (hn : n ≤ 1000000) (hN : 1 ≤ N ∧ N ≤ 256) (hr : room ≤ 1000000) (hx : ∀ x ∈ l, x ≤ N + 1) (hlast : ∀ i, l[i]? = some (N + 1) → i + 1 = n) :
    CR Tryz.prog ov 146 [.slice a n cp, nv N, nv room] ⟨h, c⟩ (fun v st => (∃ e, v = nv e ∧ (e = 0 ↔ putsL (Ze.new N room) l ≠ none)) ∧ Keep [] h c st) := by
  have hln : l.length = n := by have := hS.len; simpa using this
  refine e_3 Tryz.func146 rfl (H _ (by decide)) Tryz.ntmps146 (by decide) ?_
  intro env hl
  refine sg 1 rfl (qA hl rfl (nK (sg 5 rfl (qM hl rfl (qM hl rfl (qU hl rfl i247 z247 rfl (by simp [Program.built, Instr.fill, Tryz.underlying247, Value.cells]; rfl) ?_))))))
  refine qZ i247 z247 rfl (qV hl rfl rfl (by first | assumption | (simp only [gs]; rfl) | (simp [gs]; try rfl)) p247 rfl rfl (by simp [Value.cells]) ?_)
  refine nK (rS (sg 3 rfl (qM hl rfl (q_lenL hl rfl Tryz.underlying171 (qM hl rfl (nK (rB ?_)))))))
  refine rL (fun m env' s' => ∃ j z ps row a1 cp1, m = n - j ∧ j ≤ n ∧ Hd 31 [(14, .slice a n cp), (15, nv n), (16, nv j), (7, ptr (c + 4))] env' ∧ putsL (Ze.new N room) (l.take j) = some (z, ps) ∧ z.n = N ∧ z.most = room ∧ (j < n → z.done = false) ∧ ZrR z row a1 cp1 s'.heap.get ∧ (∀ x ∈ own a1, c ≤ x ∧ x < s'.ctr ∧ x ≠ c + 4) ∧ s'.heap.get (c + 4) = some ⟨zrV z row a1 cp1, 247, 0⟩ ∧ c + 5 ≤ s'.ctr ∧ Keep [] h c s') n ?_ ?_
  · refine ⟨0, Ze.new N room, [], [], none, 0, rfl, Nat.zero_le _, Ho hl ⟨rfl, rfl, rfl, rfl, trivial⟩, rfl, rfl, rfl, fun _ => rfl, ⟨⟨hN.1, hN.2, by dsimp only [Ze.new]; omega, by dsimp only [Ze.new]; omega, by dsimp only [Ze.new]; omega⟩, hr, by simp, rfl, SlR.nil⟩, by simp [own], ?_, by dsimp only; omega, ?_⟩
    · dsimp only; rw [T.get_set, if_pos (by omega)]; rfl
    · exact (((Keep.refl (Nat.le_refl c)).set (.inl (by omega))).set (.inl (by omega))).up (by omega)
  rintro m _ ⟨h2, c2⟩ ⟨j, z, ps, row, a1, cp1, rfl, hj, ⟨env, hl, rfl⟩, hps, hzn, hzm, hzd, hZ, hO, hb7, hc2, hK⟩
  dsimp only at hZ hO hb7 hc2
  refine sg 1 rfl (qB hl rfl rfl rfl (nK (rS ?_)))
  refine rC hl rfl (fun hjn => ?_) (fun hjn => ?_)
  · try simp only [dz, dy] at hjn
    obtain ⟨x, hx1⟩ : ∃ x, l[j]? = some x := ⟨_, List.getElem?_eq_getElem (by omega)⟩
    have hx2 := hx x (List.mem_of_getElem? hx1)
    have hS2 := hS.move (g' := h2.get) (fun z hz => hK.2 z (by have := hc z hz; omega) (by simp))
    obtain ⟨mb, rfl, rfl, hmb⟩ := hS2.pos (by omega)
    have hzd' := hzd (by omega)
    have htk : l.take (j + 1) = l.take j ++ [x] := by rw [List.take_add_one, hx1]; rfl
    have hsn := putsL_snoc (l.take j) x (Ze.new N room)
    rw [← htk, hps] at hsn; simp only [Option.bind_some] at hsn
    refine rK (kN (rS (rB (sg 3 rfl (qI hl rfl rfl e171 ⟨by omega, by omega⟩ ?_)))))
    refine qL hl rfl (by first | assumption | (simp only [gs]; rfl) | (simp [gs]; try rfl)) ((p3.1 _ _).trans (by simp [hx1])) (v := nv x) ?_
    refine qA hl rfl (nK (sg 5 rfl (qL hl rfl (by first | assumption | (simp only [gs]; rfl) | (simp [gs]; try rfl)) ((p247.1 _ _).trans rfl) ?_)))
    refine qM hl rfl (qC hl rfl (CR.mono (rPutE_cr H hZ (fun x hx => by have := hO x hx; omega) hzd' (by omega)) ?_))
    rintro v ⟨hh1, cc1⟩ ⟨z1, row1, a2, cp2, d, pl, e, rfl, hcase, hK1⟩
    have hcc1 := hK1.1
    dsimp only at hcc1 hcase
    refine qZ i249 z249 rfl (qV hl rfl rfl (by first | assumption | (simp only [gs]; rfl) | (simp [gs]; try rfl)) p249 rfl rfl (by simp [Value.cells]) ?_)
    refine ro_gen (fun H6 hH6 => ?_)
    have hx6 : ∀ x, x ≠ c2 + 7 → H6.get x = hh1.get x := fun x hx => by rw [hH6]; simp only [T.get_set]; rw [if_neg (by omega), if_neg (by omega)]
    have hb10 : H6.get (c2 + 7) = some ⟨zrV z1 row1 a2 cp2 ++ [nv d, iv pl, nv e], 249, 0⟩ := by rw [hH6, T.get_set, if_pos (by omega)]; rfl
    have hb7' := (hx6 (c + 4) (by omega)).trans ((hK1.2 (c + 4) (by omega) (by simp)).trans hb7)
    have hK6 : Keep [] h c ⟨H6, cc1⟩ := ⟨by dsimp only; omega, fun x hx _ => (hx6 x (by omega)).trans ((hK1.2 x (by omega) (by simp)).trans (hK.2 x hx (by simp)))⟩
    refine nK (rS (sg 3 rfl (qF hl rfl fa249_3 (qL hl rfl (by first | assumption | (simp only [gs]; rfl) | (simp [gs]; try rfl)) ((p3.1 _ _).trans rfl) ?_))))
    refine qB hl rfl rfl rfl (nK ?_)
    refine rC hl rfl (fun herr => ?_) (fun herr => ?_)
    · try simp only [dz, dy] at herr
      refine sg 3 rfl (qF hl rfl fa249_3 (qL hl rfl (by first | assumption | (simp only [gs]; rfl) | (simp [gs]; try rfl)) ((p3.1 _ _).trans rfl) ?_))
      refine qA hl rfl (nK (rR (kR (k_bloR (kR (kR (k_bloR (kR (f_1 hl rfl (.inl rfl) rfl ?_)))))))))
      have he2 : e = 2 ∧ ∃ e', z.put x = .error e' := by rcases hcase with q | ⟨q, _⟩; exact q; (simp [q] at herr)
      obtain ⟨rfl, e', he'⟩ := he2
      rw [he'] at hsn
      have hno : putsL (Ze.new N room) l = none := by rw [← List.take_append_drop (j + 1) l, putsL_app, hsn]; rfl
      exact ⟨⟨2, rfl, by simp [hno]⟩, hK6.up (by omega)⟩
    · try simp only [dz, dy] at herr
      obtain ⟨rfl, p, hp, rfl, hZ1, hO1⟩ : e = 0 ∧ ∃ p, z.put x = .ok (z1, d, p) ∧ pl = (if p = 0 then (-1 : Int) else (p : Int)) ∧ ZrR z1 row1 a2 cp2 hh1.get ∧ ∀ x ∈ own a2, c2 + 9 ≤ x ∧ x < cc1 := by rcases hcase with ⟨q, _⟩ | ⟨q, p, q1, q2, q3, q4⟩; (subst q; simp at herr); exact ⟨q, p, q1, q2, q3, fun x hx => by have := q4 x hx; omega⟩
      rw [hp] at hsn
      have hok := Ze.put_ok (by omega) (by omega) hzd' hp
      refine rK (kN (rg 3 rfl (qF hl rfl fa249_0 (qL hl rfl (by first | assumption | (simp only [gs]; rfl) | (simp [gs]; try rfl)) ((p247.1 _ _).trans rfl) ?_))))
      refine qV hl rfl rfl (by first | assumption | (simp only [gs]; rfl) | (simp [gs]; try rfl)) p247 rfl rfl (by simp [Value.cells, zrV]) ?_
      refine rN (kO (kN (rg 2 rfl (qP hl rfl rfl (by first | exact wI (by omega) | exact wU (by omega) | exact wB (by omega) | exact wL (by omega) | rfl) ?_))))
      refine qM hl rfl (nK ?_)
      refine ⟨n - (j + 1), by omega, j + 1, z1, ps ++ places d p, row1, a2, cp2, rfl, by omega, Ho hl ⟨rfl, rfl, rfl, rfl, trivial⟩, hsn, by omega, by omega, fun q => ?_, hZ1.move (fun x hx => ?_), fun x hx => ?_, ?_, by dsimp only; omega, (hK6.set (.inl (by omega))).up (by omega)⟩
      · rw [hok.2.2.1]; simp only [beq_eq_false_iff_ne, ne_eq]; intro q2; have := hlast j (by rw [hx1]; congr 1; omega); omega
      · have := hO1 x hx; dsimp only; rw [T.get_set, if_neg (by omega)]; exact hx6 x (by omega)
      · have := hO1 x hx; dsimp only; omega
      · dsimp only; rw [T.get_set, if_pos (by omega)]; rfl
  · try simp only [dz, dy] at hjn
    refine r_exit (kE (kE (kB (kN (sg 1 rfl (qA hl rfl (nK (rR (f_1 hl rfl (.inl rfl) rfl ?_)))))))))
    have ej : j = n := by omega
    subst ej
    rw [List.take_of_length_le (by omega)] at hps
    exact ⟨⟨0, rfl, by simp [hps]⟩, hK.up (by omega)⟩
theorem rDecode7_cr {h : Heap} {c n cp N room : Nat} {l ps' : List Nat} {z' : Ze} {a : Option Addr} (hS : SlR 3 1 (l.map nv) a n cp h.get) (hc : ∀ z ∈ own a, z < c) (hn : n ≤ 1000000) (hN : 1 ≤ N ∧ N ≤ 256) (hr : room ≤ 1000000) (hx : ∀ x ∈ l, x ≤ N + 1) (hlast : ∀ i, l[i]? = some (N + 1) → i + 1 = n) (hp : putsL (Ze.new N room) l = some (z', ps')) (hpd : z'.done = true) :
    CR Tryz.prog ov 148 [.slice a n cp, nv N, nv room] ⟨h, c⟩ (fun v st => (∃ a' cp', v = .tuple #[.slice a' ps'.length cp', nv 0] ∧ SlR 3 1 (ps'.map nv) a' ps'.length cp' st.heap.get ∧ ∀ z ∈ own a', c ≤ z ∧ z < st.ctr) ∧ Keep [] h c st) := by
  have hln : l.length = n := by have := hS.len; simpa using this
  have g1 : decide ((N : Int) < 1) = false := by simp; omega
  have g2 : decide ((N : Int) > 256) = false := by simp; omega
  have g3 : decide ((room : Int) < 0) = false := by simp
  refine e_3 Tryz.func148 rfl (H _ (by decide)) Tryz.ntmps148 (by decide) ?_
  intro env hl
  refine sg 2 rfl (qA hl rfl (qA hl rfl (nK (rS (sg 14 rfl (qM hl rfl (qB hl rfl rfl rfl (qM hl rfl (qG hl rfl rfl rfl g1 (qM hl rfl (qG hl rfl rfl rfl g1 (qB hl rfl rfl rfl (qQ hl rfl rfl rfl (if_neg (by rw [g1]; decide)) ?_)))))))))))))
  refine qM hl rfl (qG hl rfl rfl rfl g2 (qM hl rfl (qG hl rfl rfl rfl g2 (qB hl rfl rfl rfl (qQ hl rfl rfl rfl (if_neg (by rw [g2]; decide)) ?_)))))
  refine qM hl rfl (qG hl rfl rfl rfl g3 (qM hl rfl (qG hl rfl rfl rfl g3 (qB hl rfl rfl rfl (qQ hl rfl rfl rfl (if_neg (by rw [g3]; decide)) ?_)))))
  refine nK (rF hl rfl (by first | rfl | (simp only [dz]; omega) | (simp; done) | (simp; omega)) ?_)
  refine rK (kN (sg 5 rfl (qM hl rfl (qM hl rfl (qU hl rfl i247 z247 rfl (by simp [Program.built, Instr.fill, Tryz.underlying247, Value.cells]; rfl) ?_)))))
  refine qZ i247 z247 rfl (qV hl rfl rfl (by first | assumption | (simp only [gs]; rfl) | (simp [gs]; try rfl)) p247 rfl rfl (by simp [Value.cells]) ?_)
  refine nK (sg 1 rfl (qA hl rfl (nK (rS (sg 3 rfl (qM hl rfl (q_lenL hl rfl Tryz.underlying171 (qM hl rfl (nK (rB ?_))))))))))
  refine rL (fun m env' s' => ∃ j z ps row a1 cp1 ao cpo, m = n - j ∧ j ≤ n ∧ Hd 70 [(30, .slice a n cp), (31, nv n), (32, nv j), (8, ptr (c + 19)), (9, .slice ao ps.length cpo)] env' ∧ putsL (Ze.new N room) (l.take j) = some (z, ps) ∧ z.n = N ∧ z.most = room ∧ ps.length = z.told ∧ (j < n → z.done = false) ∧ ZrR z row a1 cp1 s'.heap.get ∧ (∀ x ∈ own a1, c ≤ x ∧ x < s'.ctr) ∧ SlR 3 1 (ps.map nv) ao ps.length cpo s'.heap.get ∧ (∀ x ∈ own ao, c ≤ x ∧ x < s'.ctr ∧ x ∉ own a1) ∧ s'.heap.get (c + 19) = some ⟨zrV z row a1 cp1, 247, 0⟩ ∧ c + 20 ≤ s'.ctr ∧ Keep [] h c s') n ?_ ?_
  · refine ⟨0, Ze.new N room, [], [], none, 0, none, 0, rfl, Nat.zero_le _, Ho hl ⟨rfl, rfl, rfl, rfl, rfl, trivial⟩, rfl, rfl, rfl, rfl, fun _ => rfl, ⟨⟨hN.1, hN.2, by dsimp only [Ze.new]; omega, by dsimp only [Ze.new]; omega, by dsimp only [Ze.new]; omega⟩, hr, by simp, rfl, SlR.nil⟩, by simp [own], SlR.nil, by simp [own], ?_, by dsimp only; omega, ?_⟩
    · dsimp only; rw [T.get_set, if_pos (by omega)]; rfl
    · exact (((Keep.refl (Nat.le_refl c)).set (.inl (by omega))).set (.inl (by omega))).up (by omega)
  rintro m _ ⟨h2, c2⟩ ⟨j, z, ps, row, a1, cp1, ao, cpo, rfl, hj, ⟨env, hl, rfl⟩, hps, hzn, hzm, hzt, hzd, hZ, hO1, hSo, hOo, hb8, hc2, hK⟩
  dsimp only at hZ hO1 hSo hOo hb8 hc2
  refine sg 1 rfl (qB hl rfl rfl rfl (nK (rS ?_)))
  refine rC hl rfl (fun hjn => ?_) (fun hjn => ?_)
  · try simp only [dz, dy] at hjn
    obtain ⟨x, hx1⟩ : ∃ x, l[j]? = some x := ⟨_, List.getElem?_eq_getElem (by omega)⟩
    have hx2 := hx x (List.mem_of_getElem? hx1)
    have hS2 := hS.move (g' := h2.get) (fun z hz => hK.2 z (by have := hc z hz; omega) (by simp))
    obtain ⟨mb, rfl, rfl, hmb⟩ := hS2.pos (by omega)
    have hzd' := hzd (by omega)
    have htk : l.take (j + 1) = l.take j ++ [x] := by rw [List.take_add_one, hx1]; rfl
    have hsn := putsL_snoc (l.take j) x (Ze.new N room)
    rw [← htk, hps] at hsn; simp only [Option.bind_some] at hsn
    have hnn : putsL (Ze.new N room) (l.take (j + 1)) ≠ none := putsL_pre (b := l.drop (j + 1)) (by rw [List.take_append_drop, hp]; simp)
    refine rK (kN (rS (rB (sg 3 rfl (qI hl rfl rfl e171 ⟨by omega, by omega⟩ ?_)))))
    refine qL hl rfl (by first | assumption | (simp only [gs]; rfl) | (simp [gs]; try rfl)) ((p3.1 _ _).trans (by simp [hx1])) (v := nv x) ?_
    refine qA hl rfl (nK (sg 5 rfl (qL hl rfl (by first | assumption | (simp only [gs]; rfl) | (simp [gs]; try rfl)) ((p247.1 _ _).trans rfl) ?_)))
    refine qM hl rfl (qC hl rfl (CR.mono (rPutE_cr H hZ (fun x hx => by have := hO1 x hx; omega) hzd' (by omega)) ?_))
    rintro v ⟨hh1, cc1⟩ ⟨z1, row1, a2, cp2, d, pl, e, rfl, hcase, hK1⟩
    have hcc1 := hK1.1
    dsimp only at hcc1 hcase
    obtain ⟨rfl, p, hp1, hpl, hZ1, hO2⟩ : e = 0 ∧ ∃ p, z.put x = .ok (z1, d, p) ∧ pl = (if p = 0 then (-1 : Int) else (p : Int)) ∧ ZrR z1 row1 a2 cp2 hh1.get ∧ ∀ x ∈ own a2, c2 + 9 ≤ x ∧ x < cc1 := by rcases hcase with ⟨_, e', q⟩ | ⟨q, p, q1, q2, q3, q4⟩; (rw [q] at hsn; exact absurd hsn hnn); exact ⟨q, p, q1, q2, q3, fun x hx => by have := q4 x hx; omega⟩
    rw [hp1] at hsn
    have hok := Ze.put_ok (by omega) (by omega) hzd' hp1
    have hb1 : ps.length + d + (if 0 < p then 1 else 0) ≤ 1000000 := by have := hZ1.1.2.2.2.1; have := hok.2.2.2.2.2; omega
    have hdone : j + 1 < n → z1.done = false := fun q => by rw [hok.2.2.1]; simp only [beq_eq_false_iff_ne, ne_eq]; intro q2; have := hlast j (by rw [hx1]; congr 1; omega); omega
    refine qZ i249 z249 rfl (qV hl rfl rfl (by first | assumption | (simp only [gs]; rfl) | (simp [gs]; try rfl)) p249 rfl rfl (by simp [Value.cells]) ?_)
    refine ro_gen (fun H6 hH6 => ?_)
    have hx6 : ∀ x, x ≠ c2 + 7 → H6.get x = hh1.get x := fun x hx => by rw [hH6]; simp only [T.get_set]; rw [if_neg (by omega), if_neg (by omega)]
    have hb10 : H6.get (c2 + 7) = some ⟨zrV z1 row1 a2 cp2 ++ [nv d, iv pl, nv 0], 249, 0⟩ := by rw [hH6, T.get_set, if_pos (by omega)]; rfl
    have hb8' := (hx6 (c + 19) (by omega)).trans ((hK1.2 (c + 19) (by omega) (by simp)).trans hb8)
    have hK6 : Keep [] h c ⟨H6, cc1⟩ := ⟨by dsimp only; omega, fun x hx _ => (hx6 x (by omega)).trans ((hK1.2 x (by omega) (by simp)).trans (hK.2 x hx (by simp)))⟩
    have hSo6 := hSo.move (g' := H6.get) (fun x hx => by have := hOo x hx; exact (hx6 x (by omega)).trans (hK1.2 x (by omega) (by simp)))
    have hZ6 := hZ1.move (g' := H6.get) (fun x hx => by have := hO2 x hx; exact hx6 x (by omega))
    refine nK (rS (sg 3 rfl (qF hl rfl fa249_3 (qL hl rfl (by first | assumption | (simp only [gs]; rfl) | (simp [gs]; try rfl)) ((p3.1 _ _).trans rfl) ?_))))
    refine qB hl rfl rfl rfl (nK (rF hl rfl (by rfl) ?_))
    refine rK (kN (rS (sg 3 rfl (qF hl rfl fa249_3 (qL hl rfl (by first | assumption | (simp only [gs]; rfl) | (simp [gs]; try rfl)) ((p3.1 _ _).trans rfl) ?_)))))
    refine qB hl rfl rfl rfl (nK (rF hl rfl (by rfl) ?_))
    refine rK (kN (rS (sg 3 rfl (qF hl rfl fa249_1 (qL hl rfl (by first | assumption | (simp only [gs]; rfl) | (simp [gs]; try rfl)) ((p3.1 _ _).trans rfl) ?_)))))
    refine qM hl rfl (nK (rB ?_))
    refine rL (fun m env' s' => ∃ k a3 cp3, m = d - k ∧ k ≤ d ∧ Hd 70 [(30, .slice (some ⟨mb, 0, none⟩) n 1), (31, nv n), (32, nv j), (8, ptr (c + 19)), (12, ptr (c2 + 7)), (48, nv d), (49, nv k), (9, .slice a3 (ps.length + k) cp3)] env' ∧ SlR 3 1 ((ps ++ List.replicate k 0).map nv) a3 (ps.length + k) cp3 s'.heap.get ∧ ZrR z1 row1 a2 cp2 s'.heap.get ∧ (∀ x ∈ own a3, c ≤ x ∧ x < s'.ctr ∧ x ∉ own a2) ∧ s'.heap.get (c2 + 7) = some ⟨zrV z1 row1 a2 cp2 ++ [nv d, iv pl, nv 0], 249, 0⟩ ∧ s'.heap.get (c + 19) = some ⟨zrV z row a1 cp1, 247, 0⟩ ∧ cc1 ≤ s'.ctr ∧ Keep [] h c s') d ?_ ?_
    · exact ⟨0, ao, cpo, rfl, Nat.zero_le _, Ho hl ⟨rfl, rfl, rfl, rfl, rfl, rfl, rfl, rfl, trivial⟩, by simpa using hSo6, hZ6, fun x hx => by have := hOo x hx; exact ⟨this.1, by dsimp only; omega, fun m => by have := hO2 x m; omega⟩, hb10, hb8', by dsimp only; omega, hK6.up (by omega)⟩
    rintro m _ ⟨h3, c3⟩ ⟨k, a3, cp3, rfl, hk, ⟨env, hl, rfl⟩, hS3, hZ3, hO3, hb10, hb8', hc3, hK3⟩
    dsimp only at hS3 hZ3 hO3 hb10 hb8' hc3
    refine sg 1 rfl (qB hl rfl rfl rfl (nK (rS ?_)))
    refine rC hl rfl (fun hkd => ?_) (fun hkd => ?_)
    · try simp only [dz, dy] at hkd
      refine rK (kN (rS (rB (rg 4 rfl (qM hl rfl (q1_ hl rfl a171 rfl (qX hl rfl rfl a171 a171 (hS3.move (fun z hz => by have := hO3 z hz; rw [T.get_set, if_neg (by omega)])) ((T.get_set _ _ _ _).trans (if_pos rfl)) rfl (by omega) (by omega) ?_)))))))
      intro a4 cp4 h5 hS5 hO5 hF5
      have hn19 : c + 19 ∉ own a3 := own_ne hS3 hb8' (by dsimp only; decide)
      have hn7 : c2 + 7 ∉ own a3 := own_ne hS3 hb10 (by dsimp only; decide)
      have hkp : ∀ x, x < c3 → x ∉ own a3 → h5.get x = h3.get x := fun x hx hx2 => (hF5 x (by omega) hx2).trans (by rw [T.get_set, if_neg (by omega)])
      have e : (ps ++ List.replicate (k + 1) 0).map nv = (ps ++ List.replicate k 0).map nv ++ [nv 0] := by rw [List.replicate_succ', ← List.append_assoc, List.map_append]; rfl
      refine qA hl rfl (rN (kO (kN (rg 2 rfl (qP hl rfl rfl (by first | exact wI (by omega) | exact wU (by omega) | exact wB (by omega) | exact wL (by omega) | rfl) ?_)))))
      refine qM hl rfl (nK ?_)
      exact ⟨d - (k + 1), by omega, k + 1, a4, cp4, rfl, by omega, Ho hl ⟨rfl, rfl, rfl, rfl, rfl, rfl, rfl, rfl, trivial⟩, by rw [e]; exact hS5, hZ3.move (fun x hx => by have := hO2 x hx; exact hkp x (by omega) (fun m => (hO3 x m).2.2 hx)), fun x hx => by have := hO5 x hx; exact ⟨by omega, by dsimp only; omega, fun m => by have := hO2 x m; omega⟩, (hkp _ (by omega) hn7).trans hb10, (hkp _ (by omega) hn19).trans hb8', by dsimp only; omega, hK3.app2 hF5 (fun z hz => .inl (by have := hO3 z hz; omega)) (by omega) (by omega) (by omega)⟩
    · try simp only [dz, dy] at hkd
      have ek : k = d := by omega
      subst ek
      refine r_exit (kE (kE (kB (kN (rS (sg 3 rfl (qF hl rfl fa249_2 (qL hl rfl (by first | assumption | (simp only [gs]; rfl) | (simp [gs]; try rfl)) ((p3.1 _ _).trans rfl) ?_))))))))
      refine qB hl rfl rfl rfl (nK ?_)
      refine rC hl rfl (fun hpl0 => ?_) (fun hpl0 => ?_)
      · try simp only [dz, dy] at hpl0
        have hp0 : 0 < p := by rcases Nat.eq_zero_or_pos p with q | q; (subst q; simp at hpl; omega); exact q
        rw [if_neg (by omega)] at hpl
        rw [if_pos hp0] at hb1
        refine rg 6 rfl (qM hl rfl (qF hl rfl fa249_2 (qL hl rfl (by first | assumption | (simp only [gs]; rfl) | (simp [gs]; try rfl)) ((p3.1 _ _).trans rfl) ?_)))
        refine q1_ hl rfl a171 rfl (qX hl rfl rfl a171 a171 (hS3.move (fun z hz => by have := hO3 z hz; rw [T.get_set, if_neg (by omega)])) ((T.get_set _ _ _ _).trans (if_pos rfl)) rfl (by omega) (by omega) ?_)
        intro a4 cp4 h5 hS5 hO5 hF5
        have hn19 : c + 19 ∉ own a3 := own_ne hS3 hb8' (by dsimp only; decide)
        have hn7 : c2 + 7 ∉ own a3 := own_ne hS3 hb10 (by dsimp only; decide)
        have hkp : ∀ x, x < c3 → x ∉ own a3 → h5.get x = h3.get x := fun x hx hx2 => (hF5 x (by omega) hx2).trans (by rw [T.get_set, if_neg (by omega)])
        have hb85 := (hkp _ (by omega) hn19).trans hb8'
        have hb105 := (hkp _ (by omega) hn7).trans hb10
        have hZ5 := hZ3.move (g' := h5.get) (fun x hx => by have := hO2 x hx; exact hkp x (by omega) (fun m => (hO3 x m).2.2 hx))
        have e3 : (ps ++ places k p).length = ps.length + k + 1 := by simp [places, hp0]; omega
        have e4 : (ps ++ places k p).map nv = (ps ++ List.replicate k 0).map nv ++ [iv pl] := by rw [hpl]; simp [places, hp0]
        rw [← e4] at hS5
        have hn195 : c + 19 ∉ own a4 := fun m => by have := hO5 _ m; omega
        have hK5 := hK3.app2 hF5 (fun z hz => .inl (by have := hO3 z hz; omega)) (by omega) (by omega) (Nat.le_refl _)
        refine qA hl rfl (nK (rg 3 rfl (qF hl rfl fa249_0 (qL hl rfl (by first | assumption | (simp only [gs]; rfl) | (simp [gs]; try rfl)) ((p247.1 _ _).trans rfl) ?_))))
        refine qV hl rfl rfl (by first | assumption | (simp only [gs]; rfl) | (simp [gs]; try rfl)) p247 rfl rfl (by simp [Value.cells, zrV]) ?_
        refine rN (kO (kN (rg 2 rfl (qP hl rfl rfl (by first | exact wI (by omega) | exact wU (by omega) | exact wB (by omega) | exact wL (by omega) | rfl) ?_))))
        refine qM hl rfl (nK ?_)
        refine ⟨n - (j + 1), by omega, j + 1, z1, ps ++ places k p, row1, a2, cp2, a4, cp4, rfl, by omega, Ho hl ⟨rfl, rfl, rfl, rfl, by rw [e3]; rfl, trivial⟩, hsn, by omega, by omega, ?_, hdone, hZ5.move (fun x hx => ?_), fun x hx => ?_, ?_, fun x hx => ?_, ?_, by dsimp only; omega, (hK5.set (.inl (by omega))).up (by omega)⟩
        · have := hok.2.2.2.2.2; simp only [places, List.length_append, List.length_replicate]; split at this <;> simp_all <;> omega
        · have := hO2 x hx; dsimp only; rw [T.get_set, if_neg (by omega)]
        · have := hO2 x hx; dsimp only; omega
        · rw [e3]; exact hS5.move (fun x hx => by dsimp only; rw [T.get_set, if_neg (by intro q; rw [q] at hx; exact hn195 hx)])
        · have := hO5 x hx; dsimp only; exact ⟨by omega, by omega, fun m => by have := hO2 x m; omega⟩
        · dsimp only; rw [T.get_set, if_pos rfl]; rfl
      · try simp only [dz, dy] at hpl0
        have hp0 : p = 0 := by rcases Nat.eq_zero_or_pos p with q | q; exact q; (rw [if_neg (by omega)] at hpl; omega)
        have e3 : (ps ++ places k p).length = ps.length + k := by simp [places, hp0]
        have e4 : (ps ++ places k p).map nv = (ps ++ List.replicate k 0).map nv := by simp [places, hp0]
        rw [← e4] at hS3
        have hn195 : c + 19 ∉ own a3 := own_ne hS3 hb8' (by dsimp only; decide)
        refine rK (kN (rg 3 rfl (qF hl rfl fa249_0 (qL hl rfl (by first | assumption | (simp only [gs]; rfl) | (simp [gs]; try rfl)) ((p247.1 _ _).trans rfl) ?_))))
        refine qV hl rfl rfl (by first | assumption | (simp only [gs]; rfl) | (simp [gs]; try rfl)) p247 rfl rfl (by simp [Value.cells, zrV]) ?_
        refine rN (kO (kN (rg 2 rfl (qP hl rfl rfl (by first | exact wI (by omega) | exact wU (by omega) | exact wB (by omega) | exact wL (by omega) | rfl) ?_))))
        refine qM hl rfl (nK ?_)
        refine ⟨n - (j + 1), by omega, j + 1, z1, ps ++ places k p, row1, a2, cp2, a3, cp3, rfl, by omega, Ho hl ⟨rfl, rfl, rfl, rfl, by rw [e3]; rfl, trivial⟩, hsn, by omega, by omega, ?_, hdone, hZ3.move (fun x hx => ?_), fun x hx => ?_, ?_, fun x hx => ?_, ?_, by dsimp only; omega, (hK3.set (.inl (by omega))).up (by omega)⟩
        · have := hok.2.2.2.2.2; simp only [places, List.length_append, List.length_replicate]; split at this <;> simp_all <;> omega
        · have := hO2 x hx; dsimp only; rw [T.get_set, if_neg (by omega)]
        · have := hO2 x hx; dsimp only; omega
        · rw [e3]; exact hS3.move (fun x hx => by dsimp only; rw [T.get_set, if_neg (by intro q; rw [q] at hx; exact hn195 hx)])
        · have := hO3 x hx; dsimp only; exact ⟨by omega, by omega, this.2.2⟩
        · dsimp only; rw [T.get_set, if_pos rfl]; rfl
  · try simp only [dz, dy] at hjn
    have ej : j = n := by omega
    subst ej
    rw [List.take_of_length_le (by omega), hp] at hps
    simp only [Option.some.injEq, Prod.mk.injEq] at hps
    obtain ⟨rfl, rfl⟩ := hps
    refine r_exit (kE (kE (kB (kN (rS (sg 3 rfl (qF hl rfl fa247_4 (qL hl rfl (by first | assumption | (simp only [gs]; rfl) | (simp [gs]; try rfl)) ((p4.1 _ _).trans rfl) ?_))))))))
    refine q_un hl rfl rfl (nK (rF hl rfl (by rw [hpd]; rfl) ?_))
    refine rK (kN (sg 3 rfl (qM hl rfl (qA hl rfl (qA hl rfl (nK (rR (f_2 hl rfl (.inl rfl) rfl rfl ?_))))))))
    exact ⟨⟨ao, cpo, rfl, hSo, fun z hz => by have := hOo z hz; dsimp only; omega⟩, hK.up (by omega)⟩
end
section
variable {ov : OvT} (H : OvH ov)
include H
theorem rNext_cr {h : Heap} {c n : Nat} {L : List Bool} (hL : L.length ≤ 1000) (hn : n ≤ 1000) :
    CR Tryz.prog ov 216 [.string (zs L), nv n] ⟨h, c⟩ (fun v st => v = .string (zs (nextL L n)) ∧ Same h c st) := by
  have hsz : (zs L).size = L.length := by rw [txt_size, zl_len]
  have hil := incL_len L
  refine e_2 Tryz.func216 rfl (H _ (by decide)) Tryz.ntmps216 (by decide) ?_
  intro env hl
  refine sg 1 rfl (qA hl rfl (nK (sg 1 rfl (qA hl rfl (nK (sg 1 rfl (qA hl rfl (nK (rS (sg 4 rfl (qM hl rfl (qK hl rfl Tryz.underlying9 ?_))))))))))))
  rw [hsz]
  refine q_sub hl rfl rfl (by first | exact wI (by omega) | exact wU (by omega) | exact wB (by omega) | exact wL (by omega) | rfl) ?_
  refine qA hl rfl (nK (rB ?_))
  refine rL (fun m env' s' => ∃ j, m = L.length - j ∧ j ≤ L.length ∧ Hd 38 [(0, .string (zs L)), (1, nv n), (7, iv ((L.length : Int) - 1 - j)), (5, .string (zs (incL (L.drop (L.length - j))).1)), (6, .bool (incL (L.drop (L.length - j))).2)] env' ∧ s'.heap = h ∧ c ≤ s'.ctr) L.length ?_ ?_
  · refine ⟨0, rfl, Nat.zero_le _, Ho hl ⟨rfl, rfl, ?_, ?_, ?_, trivial⟩, rfl, by dsimp only; omega⟩
    · exact congrArg (fun z => some (Value.int .i64 z)) (by omega)
    · rw [Nat.sub_zero, List.drop_length]; rfl
    · rw [Nat.sub_zero, List.drop_length]; rfl
  rintro m _ ⟨h2, c2⟩ ⟨j, rfl, hj, ⟨env, hl, rfl⟩, he, hc2⟩
  dsimp only at he hc2
  subst he
  refine rS (sg 2 rfl (qM hl rfl (qB hl rfl rfl rfl (nK ?_))))
  refine rC hl rfl (fun hjn => ?_) (fun hjn => ?_)
  · try simp only [dz, dy] at hjn
    obtain ⟨t, ht⟩ : ∃ t, L[L.length - 1 - j]? = some t := ⟨_, List.getElem?_eq_getElem (by omega)⟩
    have hd := drop_cons ht
    rw [show L.length - 1 - j + 1 = L.length - j by omega] at hd
    have hd2 : L.drop (L.length - (j + 1)) = t :: L.drop (L.length - j) := by rw [show L.length - (j + 1) = L.length - 1 - j by omega]; exact hd
    obtain ⟨D, hD⟩ : ∃ D, D = incL (L.drop (L.length - j)) := ⟨_, rfl⟩
    have hDl : D.1.length = j := by rw [hD, incL_len, List.length_drop]; omega
    have hin : incL (L.drop (L.length - (j + 1))) = ((t != D.2) :: D.1, D.2 && t) := by rw [hd2, hD]; rfl
    rw [← hD]
    refine rK (kN (rS (rB (sg 5 rfl (qM hl rfl (qM hl rfl (qJ hl rfl rfl Tryz.underlying9 (by omega) (by have := txt_get (zl_get ht); rw [show ((L.length : Int) - 1 - j).toNat = L.length - 1 - j by omega]; exact this) ?_)))))))
    refine qB hl rfl rfl (v := .bool t) (by cases t <;> rfl) ?_
    refine qA hl rfl (nK (rS (sg 3 rfl (qM hl rfl (qM hl rfl (qB hl rfl rfl (v := .bool (t != D.2)) (by simp only [evBin, evEq, Tryz.underlying4]; rfl) ?_))))))
    refine nK ?_
    refine rC hl rfl (fun hne => ?_) (fun hne => ?_)
    · try simp only [dz, dy] at hne
      have hne : (t != D.2) = true := by simpa using hne
      refine rg 3 rfl (qM hl rfl (qB hl rfl rfl (addS [49] (zl D.1) (by rw [zl_len, hDl]; simp; omega)) ?_))
      refine qA hl rfl (nK (rg 5 rfl (qM hl rfl (qM hl rfl ?_))))
      refine q_case hl (rfl : lk _ _ 28 = _) (fun hg => ?_) (fun hg => ?_)
      · have hg_ := hg
        try simp only [dz] at hg_
        refine qG hl rfl rfl rfl hg (qM hl rfl (qQ hl rfl rfl rfl (if_pos hg) (qA hl rfl (rN (kO (kN (rg 3 rfl (qM hl rfl (q_sub hl rfl rfl (by first | exact wI (by omega) | exact wU (by omega) | exact wB (by omega) | exact wL (by omega) | rfl) ?_)))))))))
        refine qA hl rfl (nK ?_)
        refine ⟨L.length - (j + 1), by omega, j + 1, rfl, by omega, Ho hl ⟨rfl, rfl, ?_, ?_, ?_, trivial⟩, rfl, by dsimp only; omega⟩
        · exact congrArg (fun z => some (Value.int .i64 z)) (by omega)
        · rw [hin, hne]; rfl
        · rw [hin, hg]; rfl
      · have hg_ := hg
        try simp only [dz] at hg_
        refine qS hl rfl rfl rfl rfl (by rw [hg]; decide) ?_
        refine qQ hl rfl rfl rfl (if_neg (by rw [hg]; decide)) ?_
        refine qA hl rfl (rN (kO (kN (rg 3 rfl (qM hl rfl (q_sub hl rfl rfl (by first | exact wI (by omega) | exact wU (by omega) | exact wB (by omega) | exact wL (by omega) | rfl) ?_))))))
        refine qA hl rfl (nK ?_)
        refine ⟨L.length - (j + 1), by omega, j + 1, rfl, by omega, Ho hl ⟨rfl, rfl, ?_, ?_, ?_, trivial⟩, rfl, by dsimp only; omega⟩
        · exact congrArg (fun z => some (Value.int .i64 z)) (by omega)
        · rw [hin, hne]; rfl
        · rw [hin, hg]; rfl
    · try simp only [dz, dy] at hne
      have hne : (t != D.2) = false := by simpa using hne
      refine rg 3 rfl (qM hl rfl (qB hl rfl rfl (addS [48] (zl D.1) (by rw [zl_len, hDl]; simp; omega)) ?_))
      refine qA hl rfl (nK (rg 5 rfl (qM hl rfl (qM hl rfl ?_))))
      refine q_case hl (rfl : lk _ _ 28 = _) (fun hg => ?_) (fun hg => ?_)
      · have hg_ := hg
        try simp only [dz] at hg_
        refine qG hl rfl rfl rfl hg (qM hl rfl (qQ hl rfl rfl rfl (if_pos hg) (qA hl rfl (rN (kO (kN (rg 3 rfl (qM hl rfl (q_sub hl rfl rfl (by first | exact wI (by omega) | exact wU (by omega) | exact wB (by omega) | exact wL (by omega) | rfl) ?_)))))))))
        refine qA hl rfl (nK ?_)
        refine ⟨L.length - (j + 1), by omega, j + 1, rfl, by omega, Ho hl ⟨rfl, rfl, ?_, ?_, ?_, trivial⟩, rfl, by dsimp only; omega⟩
        · exact congrArg (fun z => some (Value.int .i64 z)) (by omega)
        · rw [hin, hne]; rfl
        · rw [hin, hg]; rfl
      · have hg_ := hg
        try simp only [dz] at hg_
        refine qS hl rfl rfl rfl rfl (by rw [hg]; decide) ?_
        refine qQ hl rfl rfl rfl (if_neg (by rw [hg]; decide)) ?_
        refine qA hl rfl (rN (kO (kN (rg 3 rfl (qM hl rfl (q_sub hl rfl rfl (by first | exact wI (by omega) | exact wU (by omega) | exact wB (by omega) | exact wL (by omega) | rfl) ?_))))))
        refine qA hl rfl (nK ?_)
        refine ⟨L.length - (j + 1), by omega, j + 1, rfl, by omega, Ho hl ⟨rfl, rfl, ?_, ?_, ?_, trivial⟩, rfl, by dsimp only; omega⟩
        · exact congrArg (fun z => some (Value.int .i64 z)) (by omega)
        · rw [hin, hne]; rfl
        · rw [hin, hg]; rfl
  · try simp only [dz, dy] at hjn
    have ej : j = L.length := by omega
    subst ej
    rw [Nat.sub_self, List.drop_zero]
    refine r_exit (kE (kE (kB (kN (rS (rB ?_))))))
    refine rL (fun m env' s' => ∃ k, m = n - L.length - k ∧ k ≤ n - L.length ∧ Hd 38 [(1, nv n), (5, .string (zs ((incL L).1 ++ List.replicate k false)))] env' ∧ s'.heap = h2 ∧ c ≤ s'.ctr) (n - L.length) ?_ ?_
    · exact ⟨0, rfl, Nat.zero_le _, Ho hl ⟨rfl, by simp only [List.replicate_zero, List.append_nil]; rfl, trivial⟩, rfl, by dsimp only; omega⟩
    rintro m _ ⟨h3, c3⟩ ⟨k, rfl, hk, ⟨env, hl, rfl⟩, he, hc3⟩
    dsimp only at he hc3
    subst he
    refine rS (sg 4 rfl (qM hl rfl (qK hl rfl Tryz.underlying9 ?_)))
    rw [txt_size, zl_len, List.length_append, List.length_replicate, hil]
    refine qM hl rfl (qB hl rfl rfl rfl (nK ?_))
    refine rC hl rfl (fun hkn => ?_) (fun hkn => ?_)
    · try simp only [dz, dy] at hkn
      refine rK (kN (rB (rg 3 rfl (qM hl rfl (qB hl rfl rfl (addS _ [48] (by rw [zl_len, List.length_append, List.length_replicate, hil]; simp; omega)) ?_)))))
      refine qA hl rfl (rN (kO (kN ?_)))
      refine ⟨n - L.length - (k + 1), by omega, k + 1, rfl, by omega, Ho hl ⟨rfl, ?_, trivial⟩, rfl, by dsimp only; omega⟩
      show some (Value.string (txt (zl ((incL L).1 ++ List.replicate k false) ++ [48]))) = some (Value.string (txt (zl ((incL L).1 ++ List.replicate (k + 1) false))))
      rw [List.replicate_succ', ← List.append_assoc, zl_app (_ ++ _) [false]]; rfl
    · try simp only [dz, dy] at hkn
      refine r_exit (kE (kE (kB (kN (sg 2 rfl (qM hl rfl (qA hl rfl (nK (rR (f_1 hl rfl (.inl rfl) rfl ?_))))))))))
      have ek : k = n - L.length := by omega
      subst ek
      exact ⟨rfl, rfl, by dsimp only; omega⟩
abbrev sv (b : List Bool) : Value := .string (zs b)
theorem rGet_cr {h : Heap} {c n cp : Nat} {cs : List (List Bool)} {A : List Bool} {a : Option Addr} (hS : SlR 9 1 (cs.map sv) a n cp h.get) (hn : n ≤ 1000) :
    CR Tryz.prog ov 178 [.slice a n cp, .string (zs A)] ⟨h, c⟩ (fun v st => v = (match cs.findIdx? (begB A) with | some i => nv i | none => iv (-1)) ∧ Same h c st) := by
  have hln : cs.length = n := by have := hS.len; simpa using this
  refine e_2 Tryz.func178 rfl (H _ (by decide)) Tryz.ntmps178 (by decide) ?_
  intro env hl
  refine sg 1 rfl (qA hl rfl (nK (rS (sg 3 rfl (qM hl rfl (q_lenL hl rfl Tryz.underlying244 (qM hl rfl (nK (rB ?_)))))))))
  refine rL (fun m env' s' => ∃ j, m = n - j ∧ j ≤ n ∧ Hd 19 [(1, .string (zs A)), (7, .slice a n cp), (8, nv n), (9, nv j)] env' ∧ (∀ i, i < j → ∀ b, cs[i]? = some b → begB A b = false) ∧ s'.heap = h ∧ c ≤ s'.ctr) n ?_ ?_
  · exact ⟨0, rfl, Nat.zero_le _, Ho hl ⟨rfl, rfl, rfl, rfl, trivial⟩, fun i hi => by omega, rfl, by dsimp only; omega⟩
  rintro m _ ⟨h2, c2⟩ ⟨j, rfl, hj, ⟨env, hl, rfl⟩, hno, he, hc2⟩
  dsimp only at he hc2
  subst he
  refine sg 1 rfl (qB hl rfl rfl rfl (nK (rS ?_)))
  refine rC hl rfl (fun hjn => ?_) (fun hjn => ?_)
  · try simp only [dz, dy] at hjn
    obtain ⟨x, hx1⟩ : ∃ x, cs[j]? = some x := ⟨_, List.getElem?_eq_getElem (by omega)⟩
    obtain ⟨mb, rfl, rfl, hmb⟩ := hS.pos (by omega)
    refine rK (kN (rS (rB (sg 5 rfl (qM hl rfl (qI hl rfl rfl e244 ⟨by omega, by omega⟩ ?_))))))
    refine qL hl rfl (by assumption) ((p9.1 _ _).trans (by simp [hx1])) (v := sv x) ?_
    refine qA hl rfl (qA hl rfl (nK (sg 3 rfl (qM hl rfl (qM hl rfl (qC hl rfl (CR.mono (rBegins_cr H) ?_)))))))
    rintro v ⟨hh1, cc1⟩ ⟨rfl, rfl, hk⟩
    try dsimp only at hk
    refine nK ?_
    refine rC hl rfl (fun hbe => ?_) (fun hbe => ?_)
    · try simp only [dz, dy] at hbe
      refine sg 2 rfl (qM hl rfl (qA hl rfl (nK (rR (k_bloR (kR (kR (k_bloR (kR (f_1 hl rfl (.inl rfl) rfl ?_))))))))))
      have e1 : cs.findIdx? (begB A) = some j := by rw [List.findIdx?_eq_some_iff_getElem]; refine ⟨by omega, ?_, fun i hi => ?_⟩; (rw [List.getElem?_eq_getElem (by omega)] at hx1; cases hx1; exact hbe); (intro q; have := hno i hi _ (List.getElem?_eq_getElem (by omega)); rw [this] at q; cases q)
      rw [e1]
      exact ⟨rfl, rfl, by dsimp only at *; omega⟩
    · try simp only [dz, dy] at hbe
      refine rK (kO (kN (rg 2 rfl (qP hl rfl rfl (by first | exact wI (by omega) | exact wU (by omega) | exact wB (by omega) | exact wL (by omega) | rfl) ?_))))
      refine qM hl rfl (nK ?_)
      exact ⟨n - (j + 1), by omega, j + 1, rfl, by omega, Ho hl ⟨rfl, rfl, rfl, rfl, trivial⟩, fun i hi b hb => by by_cases q : i = j; (subst q; rw [hx1] at hb; cases hb; exact hbe); exact hno i (by omega) b hb, rfl, by dsimp only at *; omega⟩
  · try simp only [dz, dy] at hjn
    refine r_exit (kE (kE (kB (kN (sg 1 rfl (qA hl rfl (nK (rR (f_1 hl rfl (.inl rfl) rfl ?_)))))))))
    have e1 : cs.findIdx? (begB A) = none := by rw [List.findIdx?_eq_none_iff]; intro x hx; obtain ⟨i, hi⟩ := List.getElem?_of_mem hx; exact hno i (by have := (List.getElem?_eq_some_iff.mp hi).1; omega) x hi
    rw [e1]
    exact ⟨rfl, rfl, by dsimp only; omega⟩
end
def partC (l : List Nat) (n i : Nat) : List (List Bool) := (List.range l.length).map fun s => if l.getD s 0 < n ∨ (l.getD s 0 = n ∧ s < i) then codeB l s else []
theorem partC_len (l : List Nat) (n i : Nat) : (partC l n i).length = l.length := by simp [partC]
theorem partC_1 {l : List Nat} (h : ∀ x ∈ l, 1 ≤ x ∧ x ≤ 20) : partC l 1 0 = List.replicate l.length [] := by
  apply List.ext_getElem?; intro s
  simp only [partC, List.getElem?_map, List.getElem?_replicate]
  by_cases hs : s < l.length
  · rw [List.getElem?_range hs, if_pos hs]
    have := (h (l.getD s 0) (by rw [List.getD_eq_getElem?_getD, List.getElem?_eq_getElem hs]; exact List.getElem_mem hs)).1
    simp only [Option.map_some]; rw [if_neg (by omega)]
  · rw [if_neg hs, List.getElem?_eq_none (by simp; omega)]; rfl
theorem partC_21 {l : List Nat} (h : ∀ x ∈ l, 1 ≤ x ∧ x ≤ 20) : partC l 21 0 = codesL l := by
  apply List.map_congr_left; intro s hs
  have hs : s < l.length := by simpa using hs
  have := (h (l.getD s 0) (by rw [List.getD_eq_getElem?_getD, List.getElem?_eq_getElem hs]; exact List.getElem_mem hs)).2
  rw [if_pos (.inl (by omega))]
theorem partC_up (l : List Nat) (n : Nat) : partC l (n + 1) 0 = partC l n l.length := by
  apply List.map_congr_left; intro s hs
  have hs : s < l.length := by simpa using hs
  by_cases q : l.getD s 0 < n + 1
  · rw [if_pos (.inl q), if_pos]; rcases Nat.lt_or_ge (l.getD s 0) n with q2 | q2; exact .inl q2; exact .inr ⟨by omega, hs⟩
  · rw [if_neg (by omega), if_neg (by omega)]
theorem partC_no {l : List Nat} {n i x : Nat} (hx : l[i]? = some x) (hn : x ≠ n) : partC l n (i + 1) = partC l n i := by
  apply List.map_congr_left; intro s hs
  have e : l.getD i 0 = x := by rw [List.getD_eq_getElem?_getD, hx]; rfl
  by_cases q : s = i
  · subst q; rw [e]
    by_cases q2 : x < n
    · rw [if_pos (.inl q2), if_pos (.inl q2)]
    · rw [if_neg (by omega), if_neg (by omega)]
  · by_cases q2 : l.getD s 0 < n ∨ (l.getD s 0 = n ∧ s < i)
    · rw [if_pos q2, if_pos]; rcases q2 with q2 | q2; exact .inl q2; exact .inr ⟨q2.1, by omega⟩
    · rw [if_neg q2, if_neg]; intro q3; apply q2; rcases q3 with q3 | q3; exact .inl q3; exact .inr ⟨q3.1, by omega⟩
theorem partC_set {l : List Nat} {n i : Nat} (hx : l[i]? = some n) : partC l n (i + 1) = (partC l n i).set i (codeB l i) := by
  have hi : i < l.length := (List.getElem?_eq_some_iff.mp hx).1
  have e : l.getD i 0 = n := by rw [List.getD_eq_getElem?_getD, hx]; rfl
  apply List.ext_getElem?; intro s
  rw [List.getElem?_set]
  simp only [partC, List.getElem?_map, List.length_map, List.length_range]
  by_cases hs : s < l.length
  · rw [List.getElem?_range hs]
    simp only [Option.map_some]
    by_cases q : i = s
    · subst q; rw [if_pos rfl, if_pos hs, if_pos (.inr ⟨e, by omega⟩)]
    · rw [if_neg q]
      by_cases q2 : l.getD s 0 < n ∨ (l.getD s 0 = n ∧ s < i)
      · rw [if_pos q2, if_pos]; rcases q2 with q2 | q2; exact .inl q2; exact .inr ⟨q2.1, by omega⟩
      · rw [if_neg q2, if_neg]; intro q3; apply q2; rcases q3 with q3 | q3; exact .inl q3; exact .inr ⟨q3.1, by omega⟩
  · rw [if_neg (by omega), List.getElem?_eq_none (by simp; omega)]; rfl
theorem rank_step {l : List Nat} {n i x : Nat} (hx : l[i]? = some x) : rank l (i + 1) n = rank l i n + if x = n then 1 else 0 := by
  simp only [rank, those_take hx]; split <;> simp
theorem rank_all (l : List Nat) (n : Nat) : rank l l.length n = (those l n).length := by
  simp only [rank, those]; rw [List.take_of_length_le (by simp)]
def CodeSt (l : List Nat) (n i : Nat) (code : List Bool) : Prop :=
  (code = [] ∧ firstC l n + rank l i n = 0) ∨ ∃ k v, code = bitsN k v ∧ 1 ≤ k ∧ k ≤ n ∧ (v + 1) * 2 ^ (n - k) = firstC l n + rank l i n
theorem CodeSt.up {l : List Nat} {n : Nat} {code : List Bool} (h : CodeSt l n l.length code) : CodeSt l (n + 1) 0 code := by
  have e : firstC l (n + 1) + rank l 0 (n + 1) = 2 * (firstC l n + rank l l.length n) := by rw [rank_all]; simp [firstC, rank, idx]
  rcases h with ⟨h1, h2⟩ | ⟨k, v, h1, h2, h3, h4⟩
  · exact .inl ⟨h1, by rw [e, h2]⟩
  · exact .inr ⟨k, v, h1, h2, by omega, by rw [e, ← h4, show n + 1 - k = (n - k) + 1 by omega, Nat.pow_succ, ← Nat.mul_assoc, Nat.mul_comm]⟩
theorem CodeSt.no {l : List Nat} {n i x : Nat} {code : List Bool} (hx : l[i]? = some x) (hn : x ≠ n) (h : CodeSt l n i code) : CodeSt l n (i + 1) code := by
  simp only [CodeSt, rank_step hx, if_neg hn, Nat.add_zero]; exact h
theorem CodeSt.told {l : List Nat} {n i : Nat} (hx : l[i]? = some n) (hn : 1 ≤ n) : CodeSt l n (i + 1) (codeB l i) := by
  refine .inr ⟨n, firstC l n + rank l i n, codeB_of hx, hn, Nat.le_refl _, ?_⟩
  rw [rank_step hx, if_pos rfl, Nat.sub_self]; omega
theorem bitsN_0 (n : Nat) : bitsN n 0 = List.replicate n false := by
  have := bitsN_pad 0 0 n; simpa [bitsN] using this
theorem CodeSt.first {l : List Nat} {n i : Nat} (hx : l[i]? = some n) (h : CodeSt l n i []) : codeB l i = List.replicate n false := by
  rcases h with ⟨_, h2⟩ | ⟨k, v, h1, h2, _⟩
  · rw [codeB_of hx, h2, bitsN_0]
  · have := congrArg List.length h1; rw [bitsN_len] at this; simp at this; omega
theorem CodeSt.next {l : List Nat} {n i : Nat} {code : List Bool} (hx : l[i]? = some n) (hne : code ≠ []) (h : CodeSt l n i code) : codeB l i = nextL code n := by
  rcases h with ⟨h1, _⟩ | ⟨k, v, rfl, h2, h3, h4⟩
  · exact absurd h1 hne
  · rw [codeB_of hx, nextL_bits h3, h4]
theorem CodeSt.len {l : List Nat} {n i : Nat} {code : List Bool} (h : CodeSt l n i code) : code.length ≤ n := by
  rcases h with ⟨rfl, _⟩ | ⟨k, v, rfl, h2, h3, _⟩
  · simp
  · rw [bitsN_len]; exact h3
section
variable {ov : OvT} (H : OvH ov)
include H
theorem rCodesOf_cr {h : Heap} {c n cp : Nat} {l : List Nat} {a : Option Addr} (hS : SlR 3 1 (l.map nv) a n cp h.get) (hc : ∀ z ∈ own a, z < c) (hn : 3 ≤ n ∧ n ≤ 258) (hx : ∀ x ∈ l, 1 ≤ x ∧ x ≤ 20) :
    CR Tryz.prog ov 193 [.slice a n cp] ⟨h, c⟩ (fun v st => ∃ b, v = .slice (some ⟨b, 0, none⟩) n 1 ∧ st.heap.get b = some ⟨(codesL l).map sv, 9, 1⟩ ∧ c ≤ b ∧ b < st.ctr ∧ Keep [] h c st) := by
  have hln : l.length = n := by have := hS.len; simpa using this
  obtain ⟨mb, rfl, rfl, hmb⟩ := hS.pos (by omega)
  have hmc := hc mb (by simp [own])
  refine e_1 Tryz.func193 rfl (H _ (by decide)) Tryz.ntmps193 (by decide) ?_
  intro env hl
  refine sg 1 rfl (qA hl rfl (nK (sg 4 rfl (qM hl rfl (q_lenL hl rfl Tryz.underlying171 (q_makeSlice hl rfl rfl Tryz.underlying244 i9 z9 rfl s9 b9 rfl (by omega) (by omega) ?_))))))
  refine qA hl rfl (nK (sg 1 rfl (qA hl rfl (nK (rS (sg 1 rfl (qA hl rfl (nK (rB ?_)))))))))
  refine rL (fun m env' s' => ∃ nn code, m = 21 - nn ∧ 1 ≤ nn ∧ nn ≤ 21 ∧ Hd 42 [(0, .slice (some ⟨mb, 0, none⟩) n 1), (3, .slice (some ⟨c + 3, 0, none⟩) n 1), (5, nv nn), (4, .string (zs code))] env' ∧ CodeSt l nn 0 code ∧ s'.heap.get (c + 3) = some ⟨(partC l nn 0).map sv, 9, 1⟩ ∧ c + 5 ≤ s'.ctr ∧ Keep [] h c s') 20 ?_ ?_
  · refine ⟨1, [], rfl, by omega, by omega, Ho hl ⟨rfl, rfl, rfl, rfl, trivial⟩, .inl ⟨rfl, ?_⟩, ?_, by dsimp only; omega, ((Keep.refl (Nat.le_refl c)).set (.inl (by omega))).up (by omega)⟩
    · simp [firstC, rank, idx, those0 (fun x q => (hx x q).1)]
    · dsimp only; rw [T.get_set, if_pos (by omega), partC_1 hx, hln, List.map_replicate]; rfl
  rintro m _ ⟨h2, c2⟩ ⟨nn, code, rfl, hn1, hn2, ⟨env, hl, rfl⟩, hst, hb3, hc2, hK⟩
  dsimp only at hb3 hc2
  refine rS (sg 2 rfl (qM hl rfl (qB hl rfl rfl rfl (nK ?_))))
  refine rC hl rfl (fun hnn => ?_) (fun hnn => ?_)
  · try simp only [dz, dy] at hnn
    refine rK (kN (rS (rB (sg 3 rfl (qM hl rfl (q_lenL hl rfl Tryz.underlying171 (qM hl rfl (nK (rB ?_)))))))))
    refine rL (fun m env' s' => ∃ i code, m = n - i ∧ i ≤ n ∧ Hd 42 [(0, .slice (some ⟨mb, 0, none⟩) n 1), (3, .slice (some ⟨c + 3, 0, none⟩) n 1), (5, nv nn), (4, .string (zs code)), (15, .slice (some ⟨mb, 0, none⟩) n 1), (16, nv n), (17, nv i)] env' ∧ CodeSt l nn i code ∧ s'.heap.get (c + 3) = some ⟨(partC l nn i).map sv, 9, 1⟩ ∧ c2 ≤ s'.ctr ∧ Keep [] h c s') n ?_ ?_
    · exact ⟨0, code, rfl, Nat.zero_le _, Ho hl ⟨rfl, rfl, rfl, rfl, rfl, rfl, rfl, trivial⟩, hst, hb3, by dsimp only; omega, hK.up (by omega)⟩
    rintro m _ ⟨h3, c3⟩ ⟨i, code, rfl, hi, ⟨env, hl, rfl⟩, hst, hb3, hc3, hK⟩
    dsimp only at hb3 hc3
    refine sg 1 rfl (qB hl rfl rfl rfl (nK (rS ?_)))
    refine rC hl rfl (fun hin => ?_) (fun hin => ?_)
    · try simp only [dz, dy] at hin
      obtain ⟨x, hx1⟩ : ∃ x, l[i]? = some x := ⟨_, List.getElem?_eq_getElem (by omega)⟩
      have hx2 := hx x (List.mem_of_getElem? hx1)
      have hmb3 := (hK.2 mb hmc (by simp)).trans hmb
      refine rK (kN (rS (rB (sg 5 rfl (qM hl rfl (qI hl rfl rfl e171 ⟨by omega, by omega⟩ ?_))))))
      refine qL hl rfl (by first | assumption | (simp only [gs]; rfl) | (simp [gs]; try rfl)) ((p3.1 _ _).trans (by simp [hx1])) (v := nv x) ?_
      refine qA hl rfl (qA hl rfl (nK (rS (sg 3 rfl (qM hl rfl (qM hl rfl (qB hl rfl rfl rfl (nK ?_))))))))
      refine rC hl rfl (fun hne => ?_) (fun hne => ?_)
      · try simp only [dz, dy] at hne
        refine r_exit (kE (kB (kN (rg 2 rfl (qP hl rfl rfl (by first | exact wI (by omega) | exact wU (by omega) | exact wB (by omega) | exact wL (by omega) | rfl) ?_)))))
        refine qM hl rfl (nK ?_)
        exact ⟨n - (i + 1), by omega, i + 1, code, rfl, by omega, Ho hl ⟨rfl, rfl, rfl, rfl, rfl, rfl, rfl, trivial⟩, hst.no hx1 (by omega), by rw [partC_no hx1 (by omega)]; exact hb3, by dsimp only; omega, hK.up (by omega)⟩
      · try simp only [dz, dy] at hne
        have hxe : x = nn := by simp at hne; omega
        subst hxe
        have hlen := hst.len
        refine rK (kN (rS (sg 2 rfl (qM hl rfl (qB hl rfl rfl (v := .bool (code == [])) (congrArg (fun b => some (Value.bool b)) (zs_eq code [])) (nK ?_))))))
        refine rC hl rfl (fun hz => ?_) (fun hz => ?_)
        · try simp only [dz, dy] at hz
          have hz0 : code = [] := by simpa using hz
          subst hz0
          have hcb := hst.first hx1
          refine sg 2 rfl (qM hl rfl (qM hl rfl (nK (rB ?_))))
          refine rL (fun m env' s' => ∃ k, m = x - k ∧ k ≤ x ∧ Hd 42 [(0, .slice (some ⟨mb, 0, none⟩) n 1), (3, .slice (some ⟨c + 3, 0, none⟩) n 1), (5, nv x), (15, .slice (some ⟨mb, 0, none⟩) n 1), (16, nv n), (17, nv i), (6, nv i), (27, nv x), (28, nv k), (4, .string (zs (List.replicate k false)))] env' ∧ s'.heap = h3 ∧ c3 ≤ s'.ctr) x ?_ ?_
          · exact ⟨0, rfl, Nat.zero_le _, Ho hl ⟨rfl, rfl, rfl, rfl, rfl, rfl, rfl, rfl, rfl, rfl, trivial⟩, rfl, by dsimp only; omega⟩
          rintro m _ ⟨h4, c4⟩ ⟨k, rfl, hk, ⟨env, hl, rfl⟩, he, hc4⟩
          dsimp only at he hc4
          subst he
          refine sg 1 rfl (qB hl rfl rfl rfl (nK (rS ?_)))
          refine rC hl rfl (fun hkx => ?_) (fun hkx => ?_)
          · try simp only [dz, dy] at hkx
            refine rK (kN (rS (rB (rg 3 rfl (qM hl rfl (qB hl rfl rfl (addS _ [48] (by rw [zl_len, List.length_replicate]; simp; omega)) ?_))))))
            refine qA hl rfl (rN (kO (kN (rg 2 rfl (qP hl rfl rfl (by first | exact wI (by omega) | exact wU (by omega) | exact wB (by omega) | exact wL (by omega) | rfl) ?_)))))
            refine qM hl rfl (nK ?_)
            refine ⟨x - (k + 1), by omega, k + 1, rfl, by omega, Ho hl ⟨rfl, rfl, rfl, rfl, rfl, rfl, rfl, rfl, rfl, ?_, trivial⟩, rfl, by dsimp only; omega⟩
            show some (Value.string (txt (zl (List.replicate k false) ++ [48]))) = some (Value.string (txt (zl (List.replicate (k + 1) false))))
            rw [List.replicate_succ', zl_app _ [false]]; rfl
          · try simp only [dz, dy] at hkx
            have ek : k = x := by omega
            subst ek
            rw [← hcb]
            refine r_exit (kE (kE (kB (kN (rg 5 rfl (qM hl rfl (qM hl rfl (qM hl rfl (qI hl rfl rfl e244 ⟨by omega, by omega⟩ ?_)))))))))
            refine qW hl rfl rfl (by first | assumption | (simp only [gs]; rfl) | (simp [gs]; try rfl)) p9 rfl rfl (by simp [partC_len]; omega) ?_
            refine rN (kO (kN (rg 2 rfl (qP hl rfl rfl (by first | exact wI (by omega) | exact wU (by omega) | exact wB (by omega) | exact wL (by omega) | rfl) ?_))))
            refine qM hl rfl (nK ?_)
            refine ⟨n - (i + 1), by omega, i + 1, codeB l i, rfl, by omega, Ho hl ⟨rfl, rfl, rfl, rfl, rfl, rfl, rfl, trivial⟩, .told hx1 hx2.1, ?_, by dsimp only; omega, (hK.set (.inl (by omega))).up (by omega)⟩
            dsimp only; rw [T.get_set, if_pos (by omega), partC_set hx1, List.map_set, show 0 + ((i : Nat) : Int).toNat * 1 = i by omega]
        · try simp only [dz, dy] at hz
          have hcb := hst.next hx1 (by simpa using hz)
          refine rg 4 rfl (qM hl rfl (qM hl rfl (qC hl rfl (CR.mono (rNext_cr H (by omega) (by omega)) ?_))))
          rintro v ⟨hh1, cc1⟩ ⟨rfl, rfl, hk⟩
          try dsimp only at hk
          rw [← hcb]
          refine qA hl rfl (nK (rg 5 rfl (qM hl rfl (qM hl rfl (qM hl rfl (qI hl rfl rfl e244 ⟨by omega, by omega⟩ ?_))))))
          refine qW hl rfl rfl (by first | assumption | (simp only [gs]; rfl) | (simp [gs]; try rfl)) p9 rfl rfl (by simp [partC_len]; omega) ?_
          refine rN (kO (kN (rg 2 rfl (qP hl rfl rfl (by first | exact wI (by omega) | exact wU (by omega) | exact wB (by omega) | exact wL (by omega) | rfl) ?_))))
          refine qM hl rfl (nK ?_)
          refine ⟨n - (i + 1), by omega, i + 1, codeB l i, rfl, by omega, Ho hl ⟨rfl, rfl, rfl, rfl, rfl, rfl, rfl, trivial⟩, .told hx1 hx2.1, ?_, by dsimp only at *; omega, (hK.set (.inl (by omega))).up (by dsimp only at *; omega)⟩
          dsimp only; rw [T.get_set, if_pos (by omega), partC_set hx1, List.map_set, show 0 + ((i : Nat) : Int).toNat * 1 = i by omega]
    · try simp only [dz, dy] at hin
      have ei : i = n := by omega
      subst ei
      rw [← hln, ← partC_up] at hb3
      refine r_exit (kE (kE (kB (kO (kN (rg 3 rfl (qM hl rfl (qP hl rfl rfl (by first | exact wI (by omega) | exact wU (by omega) | exact wB (by omega) | exact wL (by omega) | rfl) ?_))))))))
      refine qA hl rfl (nK ?_)
      exact ⟨21 - (nn + 1), by omega, nn + 1, code, rfl, by omega, by omega, Ho hl ⟨rfl, rfl, rfl, rfl, trivial⟩, by rw [← hln] at hst; exact hst.up, hb3, by dsimp only; omega, hK.up (by omega)⟩
  · try simp only [dz, dy] at hnn
    have en : nn = 21 := by omega
    subst en
    rw [partC_21 hx] at hb3
    refine r_exit (kE (kE (kB (kN (sg 2 rfl (qM hl rfl (qA hl rfl (nK (rR (f_1 hl rfl (.inl rfl) rfl ?_))))))))))
    exact ⟨c + 3, rfl, hb3, by omega, by dsimp only; omega, hK.up (by omega)⟩
end
theorem zl_sub (L : List Bool) (a b : Nat) : ((zl L).drop a).take b = zl ((L.drop a).take b) := by simp [zl, List.map_take, List.map_drop]
theorem zl_rest (L : List Bool) (n : Nat) : ((zl L).drop n).take ((zl L).length - n) = zl (L.drop n) := by
  rw [zl_sub, zl_len, List.take_of_length_le (by rw [List.length_drop]; omega)]
theorem ones_take : ∀ (l : List Bool) (t : Nat), ones (l.take t) = min (ones l) t
  | [], t => by simp [ones]
  | b :: l, 0 => by simp [ones]
  | true :: l, t + 1 => by simp only [List.take_succ_cons, ones, ones_take l t]; omega
  | false :: l, t + 1 => by simp [ones]
theorem moved_map {o : List Nat} {i : Nat} (hi : i < o.length) (f : Nat → Nat) : moved (o.map f) i = (moved o i).map f := by
  simp only [moved, List.eraseIdx_eq_take_drop_succ, List.map_cons, List.map_append, List.map_take, List.map_drop, List.getD_eq_getElem?_getD, List.getElem?_map, List.getElem?_eq_getElem hi, Option.map_some, Option.getD_some]
def pkF (p : Pk) (_ : List Bool) : Bool := p.done
theorem Pk.none_good : Pk.none.good := ⟨rfl, by decide, by decide, by decide, by decide, by simp [Pk.none], fun i hi => by simp [Pk.none] at hi, fun _ => rfl⟩
theorem Pk.step_good {p p' : Pk} {l : List Bool} {n : Nat} (hg : p.good) (hd : p.done = false) (h : p.step l = .ok (p', n)) : p'.good ∧ p'.count ≠ 0 ∧ 2 ≤ p'.t ∨ p'.good ∧ p'.t = p.t ∧ p'.count = p.count := by
  obtain ⟨g1, g2, g3, g4, g5, g6, g7, g8⟩ := hg
  simp only [Pk.step] at h
  split at h
  · rename_i h0
    simp only [Pk.head] at h
    split at h
    · cases h
    · split at h
      · cases h
      · rename_i q1 q2
        cases h
        have e15 : ((l.drop 3).take 15).length = 15 := by rw [List.length_take, List.length_drop]; omega
        have := num_lt ((l.drop 3).take 15); rw [e15] at this
        have hp0 : p.picks = [] := List.eq_nil_of_length_eq_zero (by omega)
        refine .inl ⟨⟨g1, g2, by dsimp only; omega, by dsimp only; omega, by dsimp only; omega, by dsimp only; rw [hp0]; simp, fun i hi => ?_, fun q => g8 h0⟩, by dsimp only; omega, by dsimp only; omega⟩
        dsimp only at hi ⊢; rw [g8 h0]
        rcases (by omega : i = 0 ∨ i = 1 ∨ i = 2 ∨ i = 3 ∨ i = 4 ∨ i = 5) with q | q | q | q | q | q <;> subst q <;> simp <;> omega
  · rename_i h0
    simp only [Pk.pick] at h
    split at h
    · cases h
    · split at h
      · cases h
      · rename_i q1 q2
        cases h
        have hk : ones (l.take p.t) < p.t := by rw [ones_take] at q1 ⊢; omega
        have hlt : p.picks.length ≠ p.count := by
          intro q; simp only [Pk.done, q, beq_self_eq_true, Bool.and_true, decide_eq_false_iff_not] at hd; omega
        refine .inr ⟨⟨by rw [moved_len (by omega)]; exact g1, fun x hx => g2 x (moved_mem (by omega) hx), g3, g4, by dsimp only; rw [List.length_append]; simp; omega, fun x hx => ?_, fun i hi => moved_getD (by omega) hk g7 hi, fun q => absurd q h0⟩, rfl, rfl⟩
        rcases List.mem_append.mp hx with q | q
        · exact g6 x q
        · simp only [List.mem_singleton] at q; rw [q]; exact g7 _ hk
section
variable {ov : OvT} (H : OvH ov)
include H
theorem rPicks_cr {h : Heap} {c : Nat} {L : List Bool} (hL : L.length ≤ 1000000) :
    CR Tryz.prog ov 176 [.string (zs L)] ⟨h, c⟩ (fun v st => (∃ r, Runs Pk.step pkF L Pk.none 0 r ∧ match r with
      | .ok (p, n) => p.good ∧ p.done = true ∧ n ≤ L.length ∧ ∃ a cp to, v = .agg #[.slice a p.picks.length cp, nv p.t, nv n, nv to, nv 0] ∧ SlR 3 1 (p.picks.map nv) a p.picks.length cp st.heap.get ∧ (∀ z ∈ own a, c ≤ z ∧ z < st.ctr)
      | .error e => e ≠ 0 ∧ ∃ to, v = .agg #[nilS, nv 0, nv 0, nv to, nv e]) ∧ Keep [] h c st) := by
  have hsz : (zs L).size = L.length := by rw [txt_size, zl_len]
  have hf0 : pkF Pk.none (L.drop 0) = false := rfl
  have hK1 : Keep [] h c ⟨h.set c ⟨[nilS, nv 0, nv 0, nv 0, nv 0], 238, 0⟩, c⟩ := (Keep.refl (Nat.le_refl c)).set (.inl (by omega))
  have hst : Pk.none.step (L.drop 0) = if L.length < 18 then .error 3 else if num (L.take 3) < 2 ∨ 6 < num (L.take 3) ∨ num ((L.drop 3).take 15) = 0 then .error 25 else .ok (⟨num (L.take 3), num ((L.drop 3).take 15), [0, 1, 2, 3, 4, 5], []⟩, 18) := rfl
  have e3 := num_lt (L.take 3)
  have e15 := num_lt ((L.drop 3).take 15)
  refine e_1 Tryz.func176 rfl (H _ (by decide)) Tryz.ntmps176 (by decide) ?_
  intro env hl
  refine sg 1 rfl (qZ i238 z238 rfl (nK (rS (sg 3 rfl (qM hl rfl (qK hl rfl Tryz.underlying9 ?_))))))
  rw [hsz]
  refine qB hl rfl rfl rfl (nK ?_)
  refine rC hl rfl (fun h18 => ?_) (fun h18 => ?_)
  · try simp only [dz, dy] at h18
    refine sg 2 rfl (qU hl rfl i238 z238 rfl (by simp [Program.built, Instr.fill, Tryz.underlying238, Value.cells]; rfl) ?_)
    refine qV hl rfl rfl (by first | assumption | (simp only [gs]; rfl) | (simp [gs]; try rfl)) p238 rfl rfl (by simp [Value.cells]) ?_
    refine nK (rR (kR (f_c hl rfl (.inl rfl) rfl  (T.get_set _ _ _ _ |>.trans (if_pos rfl)) ((p238.1 _ _).trans rfl) ?_)))
    exact ⟨⟨.error 3, .fail hf0 (by rw [hst, if_pos (by omega)]), by decide, 0, rfl⟩, (hK1.set (.inl (by omega))).up (by omega)⟩
  · try simp only [dz, dy] at h18
    rw [List.length_take, Nat.min_eq_left (by omega)] at e3
    rw [List.length_take, List.length_drop, Nat.min_eq_left (by omega)] at e15
    refine rK (kN (sg 5 rfl (qM hl rfl (qT (s := zl L) 0 3 hl rfl Tryz.underlying9 rfl rfl ⟨by omega, by rw [zl_len]; omega⟩ ?_))))
    rw [zl_sub, List.drop_zero]
    refine qC hl rfl (CR.mono (rNumber_cr H (L := L.take 3) (by rw [List.length_take]; omega)) ?_)
    rintro v ⟨hh1, cc1⟩ ⟨rfl, rfl, hk⟩
    try dsimp only at hk
    refine qH hl rfl Tryz.underlying38 Tryz.underlying3 (by first | exact wI (by omega) | exact wU (by omega) | exact wB (by omega) | exact wL (by omega) | rfl) ?_
    refine qA hl rfl (nK (sg 5 rfl (qM hl rfl (qT (s := zl L) 3 18 hl rfl Tryz.underlying9 rfl rfl ⟨by omega, by rw [zl_len]; omega⟩ ?_))))
    rw [zl_sub]
    refine qC hl rfl (CR.mono (rNumber_cr H (L := (L.drop 3).take 15) (by rw [List.length_take]; omega)) ?_)
    rintro v ⟨hh2, cc2⟩ ⟨rfl, rfl, hk⟩
    try dsimp only at hk
    refine qH hl rfl Tryz.underlying38 Tryz.underlying3 (by first | exact wI (by omega) | exact wU (by omega) | exact wB (by omega) | exact wL (by omega) | rfl) ?_
    refine qA hl rfl (nK (rS (sg 10 rfl (qM hl rfl (qB hl rfl rfl rfl (qM hl rfl ?_))))))
    refine q_case hl (rfl : lk _ _ 23 = _) (fun hlo => ?_) (fun hlo => ?_)
    · have hlo_ := hlo
      try simp only [dz] at hlo_
      refine qS hl rfl rfl rfl rfl (by rw [hlo]; decide) ?_
      refine qS hl rfl rfl rfl rfl (by rw [hlo]; decide) ?_
      refine qQ hl rfl rfl rfl (if_pos hlo) (qM hl rfl (qS hl rfl rfl rfl rfl (by decide) ?_))
      refine qS hl rfl rfl rfl rfl (by decide) ?_
      refine qQ hl rfl rfl rfl (if_pos rfl) (nK (rT hl rfl (by rfl) ?_))
      refine sg 2 rfl (qU hl rfl i238 z238 rfl (by simp [Program.built, Instr.fill, Tryz.underlying238, Value.cells]; rfl) ?_)
      refine qV hl rfl rfl (by first | assumption | (simp only [gs]; rfl) | (simp [gs]; try rfl)) p238 rfl rfl (by simp [Value.cells]) ?_
      refine nK (rR (kR (f_c hl rfl (.inl rfl) rfl  (T.get_set _ _ _ _ |>.trans (if_pos rfl)) ((p238.1 _ _).trans rfl) ?_)))
      exact ⟨⟨.error 25, .fail hf0 (by rw [hst, if_neg (by omega), if_pos (by omega)]), by decide, 18, rfl⟩, (hK1.set (.inl (by omega))).up (by omega)⟩
    · have hlo_ := hlo
      try simp only [dz] at hlo_
      refine qG hl rfl rfl rfl hlo (qM hl rfl (qG hl rfl rfl rfl hlo (qB hl rfl rfl rfl (qQ hl rfl rfl rfl (if_neg (by rw [hlo]; decide)) ?_))))
      refine qM hl rfl ?_
      refine q_case hl (rfl : lk _ _ 27 = _) (fun hhi => ?_) (fun hhi => ?_)
      · have hhi_ := hhi
        try simp only [dz] at hhi_
        refine qS hl rfl rfl rfl rfl (by rw [hhi]; decide) ?_
        refine qS hl rfl rfl rfl rfl (by rw [hhi]; decide) ?_
        refine qQ hl rfl rfl rfl (if_pos hhi) (nK (rT hl rfl (by rfl) ?_))
        refine sg 2 rfl (qU hl rfl i238 z238 rfl (by simp [Program.built, Instr.fill, Tryz.underlying238, Value.cells]; rfl) ?_)
        refine qV hl rfl rfl (by first | assumption | (simp only [gs]; rfl) | (simp [gs]; try rfl)) p238 rfl rfl (by simp [Value.cells]) ?_
        refine nK (rR (kR (f_c hl rfl (.inl rfl) rfl  (T.get_set _ _ _ _ |>.trans (if_pos rfl)) ((p238.1 _ _).trans rfl) ?_)))
        exact ⟨⟨.error 25, .fail hf0 (by rw [hst, if_neg (by omega), if_pos (by omega)]), by decide, 18, rfl⟩, (hK1.set (.inl (by omega))).up (by omega)⟩
      · have hhi_ := hhi
        try simp only [dz] at hhi_
        refine qG hl rfl rfl rfl hhi (qM hl rfl (qG hl rfl rfl rfl hhi (qB hl rfl rfl rfl (qQ hl rfl rfl rfl (if_neg (by rw [hhi]; decide)) ?_))))
        refine nK ?_
        refine rC hl rfl (fun hc0 => ?_) (fun hc0 => ?_)
        · try simp only [dz, dy] at hc0
          refine sg 2 rfl (qU hl rfl i238 z238 rfl (by simp [Program.built, Instr.fill, Tryz.underlying238, Value.cells]; rfl) ?_)
          refine qV hl rfl rfl (by first | assumption | (simp only [gs]; rfl) | (simp [gs]; try rfl)) p238 rfl rfl (by simp [Value.cells]) ?_
          refine nK (rR (kR (f_c hl rfl (.inl rfl) rfl  (T.get_set _ _ _ _ |>.trans (if_pos rfl)) ((p238.1 _ _).trans rfl) ?_)))
          exact ⟨⟨.error 25, .fail hf0 (by rw [hst, if_neg (by omega), if_pos (by omega)]), by decide, 18, rfl⟩, (hK1.set (.inl (by omega))).up (by omega)⟩
        · try simp only [dz, dy] at hc0
          rw [if_neg (by omega), if_neg (by omega)] at hst
          obtain ⟨t, ht⟩ : ∃ t, t = num (L.take 3) := ⟨_, rfl⟩
          obtain ⟨ct, hct⟩ : ∃ ct, ct = num ((L.drop 3).take 15) := ⟨_, rfl⟩
          rw [← ht, ← hct] at hst
          have hg0 : Pk.good ⟨t, ct, [0, 1, 2, 3, 4, 5], []⟩ := by rcases Pk.step_good Pk.none_good rfl hst with q | q; exact q.1; exact q.1
          refine rK (kN (sg 1 rfl (qA hl rfl (nK (sg 1 rfl (qA hl rfl (nK (sg 1 rfl (qA hl rfl (nK (rS (rB ?_))))))))))))
          refine rL (fun m env' s' => ∃ o ps n a cp, m = L.length - n ∧ 18 ≤ n ∧ n ≤ L.length ∧ Hd 74 [(0, .string (zs L)), (2, ptr c), (3, nv t), (4, nv ct), (5, .string (txt (o.map (48 + ·)))), (6, .slice a ps.length cp), (7, nv n)] env' ∧ Pk.good ⟨t, ct, o, ps⟩ ∧ (∀ r, Runs Pk.step pkF L ⟨t, ct, o, ps⟩ n r → Runs Pk.step pkF L Pk.none 0 r) ∧ SlR 3 1 (ps.map nv) a ps.length cp s'.heap.get ∧ (∀ z ∈ own a, c + 1 ≤ z ∧ z < s'.ctr) ∧ s'.heap.get c = some ⟨[nilS, nv 0, nv 0, nv 0, nv 0], 238, 0⟩ ∧ c + 1 ≤ s'.ctr ∧ Keep [] h c s') (L.length - 18) ?_ ?_
          · exact ⟨[0, 1, 2, 3, 4, 5], [], 18, none, 0, rfl, by omega, by omega, Ho hl ⟨rfl, rfl, by rw [ht]; rfl, by rw [hct]; rfl, rfl, rfl, rfl, trivial⟩, hg0, fun r q => .more hf0 hst q, SlR.nil, by simp [own], (T.get_set _ _ _ _).trans (if_pos rfl), by dsimp only; omega, hK1.up (by omega)⟩
          rintro m _ ⟨h2, c2⟩ ⟨o, ps, n, a, cp, rfl, hn1, hn2, ⟨env, hl, rfl⟩, hg, hRuns, hS, hO, hb0, hc2, hK⟩
          dsimp only at hS hO hb0 hc2
          obtain ⟨g1, g2, g3, g4, g5, g6, g7, g8⟩ := id hg
          dsimp only at g1 g2 g3 g4 g5 g6 g7
          have hld : (L.drop n).length = L.length - n := List.length_drop
          refine rS (sg 4 rfl (qM hl rfl (q_lenL hl rfl Tryz.underlying171 (qM hl rfl (qB hl rfl rfl rfl (nK ?_))))))
          refine rC hl rfl (fun hlt => ?_) (fun hlt => ?_)
          · try simp only [dz, dy] at hlt
            have hfin : pkF ⟨t, ct, o, ps⟩ (L.drop n) = false := by simp only [pkF, Pk.done, Bool.and_eq_false_iff, beq_eq_false_iff_ne]; right; omega
            have hstp : Pk.step ⟨t, ct, o, ps⟩ (L.drop n) = Pk.pick ⟨t, ct, o, ps⟩ (L.drop n) := by simp only [Pk.step]; rw [if_neg (by omega)]
            refine rK (kN (rB (sg 5 rfl (qM hl rfl (qM hl rfl (qT (s := zl L) n (zl L).length hl rfl Tryz.underlying9 rfl rfl ⟨by rw [zl_len]; omega, Nat.le_refl _⟩ ?_))))))
            rw [zl_rest]
            refine qC hl rfl (CR.mono (rOnes_cr H (L := L.drop n) (by omega)) ?_)
            rintro v ⟨hh3, cc3⟩ ⟨rfl, rfl, hk⟩
            try dsimp only at hk
            have hol := ones_le (L.drop n)
            have hot := ones_take (L.drop n) t
            refine qA hl rfl (nK (rS (sg 3 rfl (qM hl rfl (qM hl rfl (qB hl rfl rfl rfl (nK ?_)))))))
            refine rC hl rfl (fun hge => ?_) (fun hge => ?_)
            · try simp only [dz, dy] at hge
              refine sg 5 rfl (qM hl rfl (qM hl rfl (qP hl rfl rfl (by first | exact wI (by omega) | exact wU (by omega) | exact wB (by omega) | exact wL (by omega) | rfl) ?_)))
              refine qU hl rfl i238 z238 rfl (by simp [Program.built, Instr.fill, Tryz.underlying238, Value.cells]; rfl) ?_
              refine qV hl rfl rfl (by first | assumption | (simp only [gs]; rfl) | (simp [gs]; try rfl)) p238 rfl rfl (by simp [Value.cells]) ?_
              refine nK (rR (kR (k_bloR (kR (k_bloR (kR (f_c hl rfl (.inl rfl) rfl  (T.get_set _ _ _ _ |>.trans (if_pos rfl)) ((p238.1 _ _).trans rfl) ?_)))))))
              refine ⟨⟨.error 25, hRuns _ (.fail hfin ?_), by decide, n + t, rfl⟩, (hK.set (.inl (by omega))).up (by omega)⟩
              rw [hstp]; simp only [Pk.pick]; rw [if_pos (by omega)]
            · try simp only [dz, dy] at hge
              refine rK (kN (rS (sg 6 rfl (qM hl rfl (qM hl rfl (qP hl rfl rfl (by first | exact wI (by omega) | exact wU (by omega) | exact wB (by omega) | exact wL (by omega) | rfl) ?_))))))
              refine qM hl rfl (qK hl rfl Tryz.underlying9 ?_)
              rw [hsz]
              refine qB hl rfl rfl rfl (nK ?_)
              refine rC hl rfl (fun hend => ?_) (fun hend => ?_)
              · try simp only [dz, dy] at hend
                refine sg 2 rfl (qU hl rfl i238 z238 rfl (by simp [Program.built, Instr.fill, Tryz.underlying238, Value.cells]; rfl) ?_)
                refine qV hl rfl rfl (by first | assumption | (simp only [gs]; rfl) | (simp [gs]; try rfl)) p238 rfl rfl (by simp [Value.cells]) ?_
                refine nK (rR (kR (k_bloR (kR (k_bloR (kR (f_c hl rfl (.inl rfl) rfl  (T.get_set _ _ _ _ |>.trans (if_pos rfl)) ((p238.1 _ _).trans rfl) ?_)))))))
                refine ⟨⟨.error 3, hRuns _ (.fail hfin ?_), by decide, 0, rfl⟩, (hK.set (.inl (by omega))).up (by omega)⟩
                rw [hstp]; simp only [Pk.pick]; rw [if_neg (by omega), if_pos (by omega)]
              · try simp only [dz, dy] at hend
                obtain ⟨k, hk⟩ : ∃ k, k = ones (L.drop n) := ⟨_, rfl⟩
                rw [← hk] at hol hot
                rw [← hk]
                have hst2 : Pk.step ⟨t, ct, o, ps⟩ (L.drop n) = .ok (⟨t, ct, moved o k, ps ++ [o.getD k 0]⟩, k + 1) := by rw [hstp]; simp only [Pk.pick]; rw [if_neg (by omega), if_neg (by omega), show ones ((L.drop n).take t) = k by omega]
                obtain ⟨y, hy⟩ : ∃ y, o[k]? = some y := ⟨_, List.getElem?_eq_getElem (by omega)⟩
                have hy6 := g2 y (List.mem_of_getElem? hy)
                have hyD : o.getD k 0 = y := by rw [List.getD_eq_getElem?_getD, hy]; rfl
                have hxn : (UInt8.ofNat (48 + y)).toNat = 48 + y := by simp [UInt8.toNat_ofNat]; omega
                refine rK (kN (sg 9 rfl (qM hl rfl (qM hl rfl (qM hl rfl ?_)))))
                refine qJ hl rfl rfl Tryz.underlying9 (by omega) (txt_get (s := o.map (48 + ·)) (i := k) (by rw [List.getElem?_map, hy]; rfl)) ?_
                simp only [hxn]
                refine qH hl rfl Tryz.underlying5 Tryz.underlying3 (by first | exact wI (by omega) | exact wU (by omega) | exact wB (by omega) | exact wL (by omega) | rfl) ?_
                refine q_sub hl rfl rfl (m := (y : Int)) (by rw [wrapI (by omega) (by omega)]; omega) ?_
                refine q1_ hl rfl a171 rfl (qX hl rfl rfl a171 a171 (hS.move (fun z hz => by have := hO z hz; rw [T.get_set, if_neg (by omega)])) ((T.get_set _ _ _ _).trans (if_pos rfl)) rfl (by omega) (by omega) ?_)
                intro a2 cp2 h4 hS2 hO2 hF2
                have hbc := (hF2 c (by omega) (fun m => by have := hO c m; omega)).trans ((T.get_set _ _ _ _).trans ((if_neg (by omega)).trans hb0))
                refine qA hl rfl (nK (sg 4 rfl (qM hl rfl (qM hl rfl (qC hl rfl (CR.mono (rTouch_cr H (l := o.map (48 + ·)) (i := k) (by rw [List.length_map]; omega) (by rw [List.length_map]; omega)) ?_))))))
                rintro v ⟨hh4, cc4⟩ ⟨rfl, rfl, hk⟩
                try dsimp only at hk
                rw [moved_map (by omega)]
                refine qA hl rfl (nK (rg 5 rfl (qM hl rfl (qM hl rfl (qP hl rfl rfl (by first | exact wI (by omega) | exact wU (by omega) | exact wB (by omega) | exact wL (by omega) | rfl) ?_)))))
                refine qP hl rfl rfl (by first | exact wI (by omega) | exact wU (by omega) | exact wB (by omega) | exact wL (by omega) | rfl) ?_
                refine qA hl rfl (rN (kO (kN ?_)))
                refine ⟨L.length - (n + k + 1), by omega, moved o k, ps ++ [y], n + k + 1, a2, cp2, rfl, by omega, by omega, Ho hl ⟨rfl, rfl, rfl, rfl, rfl, by rw [List.length_append]; rfl, rfl, trivial⟩, ?_, fun r q => hRuns r (.more hfin hst2 (by rw [hyD]; exact q)), by rw [List.map_append, List.length_append]; exact hS2, fun z hz => by have := hO2 z hz; dsimp only; omega, hbc, by dsimp only at *; omega, hK.app2 hF2 (fun z hz => .inl (by have := hO z hz; omega)) (by omega) (by omega) (by dsimp only at *; omega)⟩
                rw [hyD] at hst2; rcases Pk.step_good hg hfin hst2 with q | q; exact q.1; exact q.1
          · try simp only [dz, dy] at hlt
            have hle : ps.length = ct := by omega
            refine r_exit (kE (kE (kB (kN (sg 6 rfl (qM hl rfl (qM hl rfl (qM hl rfl (qM hl rfl (qU hl rfl i238 z238 rfl (by simp [Program.built, Instr.fill, Tryz.underlying238, Value.cells]; rfl) ?_))))))))))
            refine qV hl rfl rfl (by first | assumption | (simp only [gs]; rfl) | (simp [gs]; try rfl)) p238 rfl rfl (by simp [Value.cells]) ?_
            refine nK (rR (f_c hl rfl (.inl rfl) rfl  (T.get_set _ _ _ _ |>.trans (if_pos rfl)) ((p238.1 _ _).trans rfl) ?_))
            have hdn : Pk.done ⟨t, ct, o, ps⟩ = true := by simp only [Pk.done, hle, beq_self_eq_true, Bool.and_true, decide_eq_true_eq]; omega
            exact ⟨⟨.ok (⟨t, ct, o, ps⟩, n), hRuns _ (.stop hdn), hg, hdn, hn2, a, cp, n, rfl, hS.move (fun z hz => by have := hO z hz; dsimp only; rw [T.get_set, if_neg (by omega)]), fun z hz => by have := hO z hz; dsimp only; omega⟩, (hK.set (.inl (by omega))).up (by omega)⟩
end
end Go.Proofs.YtegjkhgaoabfcaaGreat
