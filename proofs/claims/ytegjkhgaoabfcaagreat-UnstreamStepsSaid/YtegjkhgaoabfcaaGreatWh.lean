/- Part 8 (a part of the proof of UnstreamSteps; no condition). -/
import Derived.Test.YtegjkhgaoabfcaaGreatWg
set_option linter.unusedSimpArgs false
set_option linter.unusedVariables false
set_option maxRecDepth 10000
namespace Go.Proofs.YtegjkhgaoabfcaaGreat
open Go.AE
structure Un where
  unit : Nat
  due : Nat
  at_ : Nat
  level : Nat
  block : Option Bl
  last : List Nat
  origin : Nat
  gsum : Nat
  total : Nat
  ended : Bool
def Un.new (unit : Nat) : Un := ⟨unit, 0, 0, 0, none, [], 0, 0, 0, false⟩
def Un.mayEnd (u : Un) : Bool := u.ended && u.due == 0 && u.at_ == 0
def Un.letter (u : Un) (l : List Bool) : Except Nat (Un × Nat × Nat) :=
  if l.length < 8 then .error 3
  else if u.at_ < 3 then if num (l.take 8) = [66, 90, 104].getD u.at_ 0 then .ok ({ u with at_ := u.at_ + 1 }, 0, 8) else .error 20
  else if num (l.take 8) < 49 ∨ 57 < num (l.take 8) then .error 20
  else .ok ({ u with level := num (l.take 8) - 48, at_ := 0, total := 0, due := 1 }, 0, 8)
def Un.magic (u : Un) (l : List Bool) : Except Nat (Un × Nat × Nat) :=
  if l.length < 48 then .error 3
  else if num (l.take 48) = 54156738319193 then .ok ({ u with block := some (Bl.new (u.level * u.unit)), due := 2 }, 0, 48)
  else if num (l.take 48) = 25779555029136 then .ok ({ u with due := 3 }, 0, 48)
  else .error 20
def Un.body (u : Un) (l : List Bool) : Except Nat (Un × Nat × Nat) := match u.block with
  | none => .error 99
  | some b => match b.step l with
    | .error e => .error e
    | .ok (b', n) => if !b'.done then .ok ({ u with block := some b' }, 0, n) else .ok ({ u with block := none, last := b'.last, origin := b'.from_, gsum := b'.sum, total := crcCom u.total b'.sum, due := 1 }, 1, n)
def Un.sumS (u : Un) (l : List Bool) : Except Nat (Un × Nat × Nat) :=
  if l.length < 32 then .error 3 else if num (l.take 32) ≠ u.total then .error 21
  else .ok ({ u with due := 0, ended := true }, 2, 32 + (l.length - 32) % 8)
def Un.step (u : Un) (l : List Bool) : Except Nat (Un × Nat × Nat) :=
  if u.due = 0 then u.letter l else if u.due = 1 then u.magic l else if u.due = 2 then u.body l else u.sumS l
def Bl.live (b : Bl) : Prop := b.done = false ∧ ∀ x, b.row = some x → x.waits = false → x.co.done = false
def Un.good (u : Un) : Prop := 24 ≤ u.unit ∧ u.unit ≤ 100000 ∧ u.due ≤ 3 ∧ u.at_ ≤ 3 ∧ (u.due ≠ 0 → 1 ≤ u.level ∧ u.level ≤ 9) ∧ u.total < 4294967296 ∧ (u.due = 2 → ∃ b, u.block = some b ∧ b.live) ∧ (∀ x ∈ u.last, x < 256) ∧ u.last.length ≤ 900000 ∧ u.gsum < 4294967296
def blkR (o : Option Bl) (bv' : Value) (bW : List Nat) (g : Nat → Option Blk) : Prop := match o with
  | none => bv' = .pointer none ∧ bW = []
  | some b => ∃ p, bv' = ptr p ∧ BlR b p bW g
def UnR (u : Un) (b : Nat) (W : List Nat) (g : Nat → Option Blk) : Prop :=
  u.good ∧ ∃ (v : Value) (bW : List Nat), g b = some ⟨[nv u.unit, nv u.due, nv u.at_, nv u.level, v, .string (txt u.last), nv u.origin, uv u.gsum, uv u.total, .bool u.ended, nv 0], 121, 0⟩ ∧ blkR u.block v bW g ∧ W = b :: bW
theorem blkR.move {o : Option Bl} {v : Value} {bW : List Nat} {g g' : Nat → Option Blk} (h : blkR o v bW g) (hg : ∀ z ∈ bW, g' z = g z) : blkR o v bW g' := by
  cases o with
  | none => exact h
  | some b => obtain ⟨p, h1, h2⟩ := h; exact ⟨p, h1, h2.move hg⟩
theorem blkR.kind {o : Option Bl} {v : Value} {bW : List Nat} {g : Nat → Option Blk} (h : blkR o v bW g) : ∀ z ∈ bW, ∃ B, g z = some B ∧ B.elem ∈ [164, 169, 322, 305, 5, 214, 255, 328, 3, 323, 333] := by
  cases o with
  | none => obtain ⟨_, rfl⟩ := h; intro z hz; simp at hz
  | some b => obtain ⟨p, h1, h2⟩ := h; exact h2.kind
theorem UnR.move {u : Un} {b : Nat} {W : List Nat} {g g' : Nat → Option Blk} (h : UnR u b W g) (hg : ∀ z ∈ W, g' z = g z) : UnR u b W g' := by
  obtain ⟨h0, v, bW, h1, h2, rfl⟩ := h
  exact ⟨h0, v, bW, (hg b (by simp)).trans h1, h2.move (fun z hz => hg z (by simp [hz])), rfl⟩
theorem UnR.r_ne {u : Un} {b : Nat} {W : List Nat} {g : Nat → Option Blk} {all : List Bool} {dr at_ r : Nat} (h : UnR u b W g) (hR : BitR all dr at_ (g r)) : r ∉ W := by
  obtain ⟨_, v, bW, h1, h2, rfl⟩ := h
  obtain ⟨s, hs, _⟩ := hR
  simp only [List.mem_cons, not_or]
  exact ⟨blk_ne hs h1 (by dsimp only; decide), kind_ne h2.kind hs (by dsimp only; decide)⟩
def UnPost (h : Heap) (c0 : Nat) (all : List Bool) (dr at_ r b : Nat) (W : List Nat) (u : Un) (V : Nat → Value → Nat → Prop) (res : Except Nat (Un × Nat × Nat)) (v : Value) (st : St) : Prop :=
  (match res with
    | .ok (u', w, n) => V 0 v w ∧ BitR all dr (at_ + n) (st.heap.get r) ∧ ∃ W', UnR u' b W' st.heap.get ∧ ∀ z ∈ W', z ∈ W ∨ c0 ≤ z ∧ z < st.ctr
    | .error e => V e v 0 ∧ e ≠ 0 ∧ (e = 3 → BitR all dr at_ (st.heap.get r) ∧ UnR u b W st.heap.get) ∧ (∃ y x, st.heap.get b = some ⟨[nv u.unit, nv u.due, nv u.at_, nv u.level, y, .string (txt u.last), nv u.origin, uv u.gsum, uv u.total, .bool u.ended, x], 121, 0⟩) ∧ ∃ k, at_ ≤ k ∧ BitR all dr k (st.heap.get r)) ∧ Keep (r :: W) h c0 st
def V1 (e : Nat) (v : Value) (w : Nat) : Prop := v = nv e ∧ w = 0
def V2 (e : Nat) (v : Value) (w : Nat) : Prop := v = .tuple #[nv w, nv e]
theorem bzh {a : Nat} (h : a < 3) : (⟨#[66, 90, 104]⟩ : ByteArray)[((a : Nat) : Int).toNat]? = some (UInt8.ofNat ([66, 90, 104].getD a 0)) ∧ (UInt8.ofNat ([66, 90, 104].getD a 0)).toNat = [66, 90, 104].getD a 0 ∧ [66, 90, 104].getD a 0 < 256 := by
  rcases (by omega : a = 0 ∨ a = 1 ∨ a = 2) with q | q | q <;> subst q <;> exact ⟨rfl, rfl, by decide⟩
section
variable {ov : OvT} (H : OvH ov)
include H
theorem unLetter_cr {h : Heap} {c0 b r dr at_ : Nat} {all : List Bool} {u : Un} {W : List Nat} (hP : UnR u b W h.get) (hR : BitR all dr at_ (h.get r)) (hc : r < c0 ∧ ∀ z ∈ W, z < c0) (hd : u.due = 0) :
    CR Tryz.prog ov 113 [ptr b, ptr r] ⟨h, c0⟩ (fun v st => UnPost h c0 all dr at_ r b W u V1 (u.letter (all.drop at_)) v st) := by
  have hrW := hP.r_ne hR
  have hP0 := hP
  obtain ⟨⟨g1, g2, g3, g4, g5, g6, g7⟩, bvv, bW, hb, hB, rfl⟩ := id hP
  simp only [List.mem_cons, not_or] at hrW
  have hbW : b ∉ bW := kind_ne hB.kind hb (by dsimp only; decide)
  have hbc := hc.2 b (by simp)
  have hln : (all.drop at_).length = all.length - at_ := List.length_drop
  simp only [Un.letter]
  refine e_2 Tryz.func113 rfl (H _ (by decide)) Tryz.ntmps113 (by decide) ?_
  intro env U
  refine sg 1 J (qA U J (nK (sg 7 J (qM U J (qC U J (CR.mono ((get_any H hR oA oA (n := 8))) ?_))))))
  rintro v ⟨hh1, cc1⟩ ⟨e9, w9, rfl, hG, hGK⟩
  have hcc1 : c0 + 1 + 7 ≤ cc1 := hGK.1
  have hb1 := (hGK.2 b (by omega) (by simpa using Ne.symm hrW.1)).trans hb
  have hK1 := (hGK.base (c0 := c0) (by omega)).weak (W' := r :: b :: bW) (by simp)
  refine qM U J (qE U J J (qE U J J (qA U J (qA U J (nK (rS (rB (sg 3 J (qM U J (qB U J J J (qA U J (nK ?_))))))))))))
  refine rC U rfl (fun he => ?_) (fun he => ?_)
  · try simp only [dz, dy] at he
    refine sg 2 J (qM U J (qA U J (nK (rR (k_bloR (kR (f_1 U J (.inl J) J ?_)))))))
    rcases hG with ⟨hlt, rfl, _, hR4⟩ | ⟨_, rfl, _, _⟩
    · rw [if_pos (by omega)]
      exact ⟨⟨⟨rfl, rfl⟩, by decide, fun _ => ⟨hR4, hP0.move (fun z hz => hGK.2 z (by have := hc.2 z hz; omega) (by simp; rintro rfl; simp only [List.mem_cons] at hz; rcases hz with q | q; (exact hrW.1 q); (exact hrW.2 q)))⟩, ⟨_, _, hb1⟩, at_, Nat.le_refl _, hR4⟩, hK1.up (by omega)⟩
    · simp at he
  · try simp only [dz, dy] at he
    rcases hG with ⟨_, rfl, _, _⟩ | ⟨hle, _, rfl, hR4⟩
    · simp at he
    rw [if_neg (by omega)]
    have e8 : ((all.drop at_).take 8).length = 8 := by rw [List.length_take]; omega
    have hlt8 := num_lt ((all.drop at_).take 8); rw [e8] at hlt8
    have hmk : ∀ (u' : Un) (hf : Heap), u'.good → u'.block = u.block → u'.unit = u.unit → u'.last = u.last → u'.origin = u.origin → u'.gsum = u.gsum → hf.get b = some ⟨[nv u.unit, nv u'.due, nv u'.at_, nv u'.level, bvv, .string (txt u.last), nv u.origin, uv u.gsum, uv u'.total, .bool u'.ended, nv 0], 121, 0⟩ → (∀ z, z ≠ b → hf.get z = hh1.get z) → UnR u' b (b :: bW) hf.get := fun u' hf w1 w2 w3 w4 w5 w6 w7 w8 => ⟨w1, bvv, bW, by rw [w3, w4, w5, w6]; exact w7, by rw [w2]; exact hB.move (fun z hz => (w8 z (fun e => hbW (e ▸ hz))).trans (hGK.2 z (by have := hc.2 z (by simp [hz]); omega) (by simp; rintro rfl; exact hrW.2 hz))), rfl⟩
    refine sg 6 J (qM U J (qN U J (qF U J fa121_2 (qL U rfl (by first | assumption | (simp only [gs, hb1]; rfl) | (simp [gs, hb1]; try rfl)) ((p3.1 _ _).trans rfl) ?_))))
    refine qB U J J J (qA U J (nK ?_))
    refine rC U rfl (fun ha3 => ?_) (fun ha3 => ?_)
    · try simp only [dz, dy] at ha3
      obtain ⟨z1, z2, z3⟩ := bzh (a := u.at_) (by omega)
      refine rS (sg 8 J (qM U J (qM U J (qN U J (qF U J fa121_2 (qL U rfl (by first | assumption | (simp only [gs, hb1]; rfl) | (simp [gs, hb1]; try rfl)) ((p3.1 _ _).trans rfl) ?_))))))
      refine qJ U J J Tryz.underlying9 oA z1 ?_
      simp only [z2]
      refine qH U J Tryz.underlying5 Tryz.underlying38 wA ?_
      refine qB U J J J (nK ?_)
      refine rC U rfl (fun hne => ?_) (fun hne => ?_)
      · try simp only [dz, dy] at hne
        refine sg 1 J (qA U J (nK (rR (kR (k_bloR (kR (f_1 U J (.inl J) J ?_)))))))
        rw [if_pos (by omega), if_neg (by omega)]
        exact ⟨⟨⟨rfl, rfl⟩, by decide, fun q => absurd q (by decide), ⟨_, _, hb1⟩, _, by omega, hR4⟩, hK1.up (by omega)⟩
      · try simp only [dz, dy] at hne
        refine rK (kN (sg 8 J (qM U J (qN U J (qF U J fa121_2 (qL U rfl (by first | assumption | (simp only [gs, hb1]; rfl) | (simp [gs, hb1]; try rfl)) ((p3.1 _ _).trans rfl) ?_))))))
        refine qP U J J wA ?_
        refine qN U J (qF U J fa121_2 (qW U rfl rfl (by first | assumption | (simp only [gs, hb1]; rfl) | (simp [gs, hb1]; try rfl)) p3 rfl rfl (by first | decide | (simp; done) | (simp; omega)) ?_))
        refine nK (sg 1 J (qA U J (nK (rR (k_bloR (kR (f_1 U J (.inl J) J ?_)))))))
        rw [if_pos (by omega), if_pos (by simp only [bne_eq_false_iff_eq] at hne; omega)]
        refine ⟨⟨⟨rfl, rfl⟩, hR4.move (by dsimp only; rw [T.get_set, if_neg hrW.1]), b :: bW, hmk _ _ ⟨g1, g2, g3, by dsimp only; omega, g5, g6, g7⟩ rfl rfl rfl rfl rfl ?_ (fun z hz => by rw [T.get_set, if_neg hz]), fun z hz => .inl hz⟩, (hK1.set (nm := b) (.inr (by simp))).up oA⟩
        rw [T.get_set, if_pos rfl]; rfl
    · try simp only [dz, dy] at ha3
      refine sg 7 J (qM U J (qB U J J J (qM U J ?_)))
      refine q_case U (rfl : lk _ _ 40 = _) (fun hlo => ?_) (fun hlo => ?_)
      · have hlo_ := hlo
        try simp only [dz] at hlo_
        refine qS U rfl rfl rfl rfl (by rw [hlo]; decide) ?_
        refine qS U rfl rfl rfl rfl (by rw [hlo]; decide) ?_
        refine qQ U J J J (if_pos hlo) (qA U J (nK (rT U rfl (by rfl) ?_)))
        refine sg 1 J (qA U J (nK (rR (k_bloR (kR (f_1 U J (.inl J) J ?_))))))
        rw [if_neg (by omega), if_pos (by omega)]
        exact ⟨⟨⟨rfl, rfl⟩, by decide, fun q => absurd q (by decide), ⟨_, _, hb1⟩, _, by omega, hR4⟩, hK1.up (by omega)⟩
      · have hlo_ := hlo
        try simp only [dz] at hlo_
        refine qG U J J J hlo (qM U J (qG U J J J hlo (qB U J J J (qQ U rfl rfl rfl (if_neg (by rw [hlo]; decide)) ?_))))
        refine qA U J (nK ?_)
        refine rC U rfl (fun hhi => ?_) (fun hhi => ?_)
        · try simp only [dz, dy] at hhi
          refine sg 1 J (qA U J (nK (rR (k_bloR (kR (f_1 U J (.inl J) J ?_))))))
          rw [if_neg (by omega), if_pos (by omega)]
          exact ⟨⟨⟨rfl, rfl⟩, by decide, fun q => absurd q (by decide), ⟨_, _, hb1⟩, _, by omega, hR4⟩, hK1.up (by omega)⟩
        · try simp only [dz, dy] at hhi
          refine rK (kO (kN (sg 7 J (qM U J (qM U J (q_sub U rfl rfl (m := ((num ((all.drop at_).take 8) - 48 : Nat) : Int)) (by rw [wrapU32 oA oA]; omega) ?_))))))
          refine qH U J Tryz.underlying38 Tryz.underlying3 wA ?_
          refine qN U J (qF U J fa121_3 (qW U rfl rfl (by first | assumption | (simp only [gs, hb1]; rfl) | (simp [gs, hb1]; try rfl)) p3 rfl rfl (by first | decide | (simp; done) | (simp; omega)) ?_))
          refine nK (sg 4 J (qM U J (qN U J (qF U J fa121_2 (qW U rfl rfl (by first | assumption | (simp only [gs, hb1]; rfl) | (simp [gs, hb1]; try rfl)) p3 rfl rfl (by first | decide | (simp; done) | (simp; omega)) ?_)))))
          refine nK (sg 4 J (qM U J (qN U J (qF U J fa121_6 (qW U rfl rfl (by first | assumption | (simp only [gs, hb1]; rfl) | (simp [gs, hb1]; try rfl)) p38 rfl rfl (by first | decide | (simp; done) | (simp; omega)) ?_)))))
          refine nK (sg 4 J (qM U J (qN U J (qF U J fa121_1 (qW U rfl rfl (by first | assumption | (simp only [gs, hb1]; rfl) | (simp [gs, hb1]; try rfl)) p118 rfl rfl (by first | decide | (simp; done) | (simp; omega)) ?_)))))
          refine nK (sg 1 J (qA U J (nK (rR (f_1 U J (.inl J) J ?_)))))
          rw [if_neg (by omega), if_neg (by omega)]
          refine ⟨⟨⟨rfl, rfl⟩, hR4.move (by dsimp only; rw [T.get_set, if_neg hrW.1, T.get_set, if_neg hrW.1, T.get_set, if_neg hrW.1, T.get_set, if_neg hrW.1]), b :: bW, hmk _ _ ⟨g1, g2, by dsimp only; omega, by dsimp only; omega, fun _ => by dsimp only; omega, by dsimp only; omega, fun q => absurd (show 1 = 2 from q) (by decide), g7.2⟩ rfl rfl rfl rfl rfl ?_ (fun z hz => by rw [T.get_set, if_neg hz, T.get_set, if_neg hz, T.get_set, if_neg hz, T.get_set, if_neg hz]), fun z hz => .inl hz⟩, ((((hK1.set (nm := b) (.inr (by simp))).set (nm := b) (.inr (by simp))).set (nm := b) (.inr (by simp))).set (nm := b) (.inr (by simp))).up oA⟩
          rw [T.get_set, if_pos rfl]; rfl
omit H in
theorem num48 {l : List Bool} (h : 48 ≤ l.length) : num (l.take 48) = num (l.take 24) * 16777216 + num ((l.drop 24).take 24) := by
  have e : l.take 48 = l.take 24 ++ (l.drop 24).take 24 := List.take_add (i := 24) (j := 24)
  have e2 : ((l.drop 24).take 24).length = 24 := by rw [List.length_take, List.length_drop]; omega
  rw [e, num_append, e2]
omit H in
theorem orU64 {P : Program} {t : TypeId} (a b : Nat) (ha : a < 16777216) (hb : b < 16777216) : evBin P .or t (.int .u64 ((a * 16777216 : Nat) : Int)) (.int .u64 (b : Int)) = some (.int .u64 ((a * 16777216 + b : Nat) : Int)) := by
  obtain ⟨x, hx⟩ : ∃ x, x = a * 16777216 := ⟨_, rfl⟩
  rw [← hx]
  have h3 : IntKind.u64.wrap ((BitVec.ofInt 64 (x : Int) ||| BitVec.ofInt 64 (b : Int)).toNat) = ((x + b : Nat) : Int) := by
    have e1 : BitVec.ofInt 64 (x : Int) = BitVec.ofNat 64 x := rfl
    have e2 : BitVec.ofInt 64 (b : Int) = BitVec.ofNat 64 b := rfl
    have e3 : (BitVec.ofNat 64 x ||| BitVec.ofNat 64 b).toNat = x + b := by
      rw [BitVec.toNat_or, BitVec.toNat_ofNat, BitVec.toNat_ofNat, Nat.mod_eq_of_lt (by omega), Nat.mod_eq_of_lt (by omega)]
      have := Nat.shiftLeft_add_eq_or_of_lt (i := 24) (b := b) (by omega) a
      rw [Nat.shiftLeft_eq] at this; rw [hx]; exact this.symm
    rw [e1, e2, e3]; exact wrapU64 (by omega) (by omega)
  simp only [evBin, if_true]; exact congrArg (fun z => some (Value.int .u64 z)) h3
omit H in
theorem shlU64 {P : Program} {t : TypeId} (a : Nat) (k2 : IntKind) (ha : a < 16777216) : evBin P .shl t (.int .u64 (a : Int)) (.int k2 24) = some (.int .u64 ((a * 16777216 : Nat) : Int)) := by
  have h1 : ¬ (24 : Int) < 0 := by omega
  have h2 : min (24 : Int).toNat IntKind.u64.bits = 24 := by decide
  simp only [evBin, if_neg h1, h2]
  have : (a : Int) * 2 ^ 24 = ((a * 16777216 : Nat) : Int) := by simp
  rw [this, wrapU64 (by omega) (by omega)]
theorem unMagic_cr {h : Heap} {c0 b r dr at_ : Nat} {all : List Bool} {u : Un} {W : List Nat} (hP : UnR u b W h.get) (hR : BitR all dr at_ (h.get r)) (hc : r < c0 ∧ ∀ z ∈ W, z < c0) (hd : u.due = 1) :
    CR Tryz.prog ov 114 [ptr b, ptr r] ⟨h, c0⟩ (fun v st => UnPost h c0 all dr at_ r b W u V1 (u.magic (all.drop at_)) v st) := by
  have hrW := hP.r_ne hR
  have hP0 := hP
  obtain ⟨⟨g1, g2, g3, g4, g5, g6, g7⟩, bvv, bW, hb, hB, rfl⟩ := id hP
  simp only [List.mem_cons, not_or] at hrW
  have hbW : b ∉ bW := kind_ne hB.kind hb (by dsimp only; decide)
  have hbc := hc.2 b (by simp)
  have hln : (all.drop at_).length = all.length - at_ := List.length_drop
  have hlv := g5 (by omega)
  simp only [Un.magic]
  by_cases h48 : (all.drop at_).length < 48
  · rw [if_pos h48]
    refine e_2 Tryz.func114 rfl (H _ (by decide)) Tryz.ntmps114 (by decide) ?_
    intro env U
    refine sg 1 J (qA U J (nK (rS (sg 3 J (qM U J (qC U J (CR.mono (left_cr H hR oA) ?_)))))))
    rintro v ⟨hh1, cc1⟩ ⟨rfl, rfl, hk⟩
    try dsimp only at hk
    refine qB U J J J (nK (rT U rfl (by simp; omega) ?_))
    refine sg 1 J (qA U J (nK (rR (kR (f_1 U J (.inl J) J ?_)))))
    exact ⟨⟨⟨rfl, rfl⟩, by decide, fun _ => ⟨hR, hP0⟩, ⟨_, _, hb⟩, at_, Nat.le_refl _, hR⟩, Keep.refl (by omega)⟩
  · rw [if_neg h48]
    have e24a : ((all.drop at_).take 24).length = 24 := by rw [List.length_take]; omega
    have e24 : (((all.drop at_).drop 24).take 24).length = 24 := by rw [List.length_take, List.length_drop]; omega
    have l24a := num_lt ((all.drop at_).take 24); rw [e24a] at l24a
    have l24 := num_lt (((all.drop at_).drop 24).take 24); rw [e24] at l24
    have d24 : all.drop (at_ + 24) = (all.drop at_).drop 24 := by rw [List.drop_drop]
    rw [num48 (by omega)]
    refine e_2 Tryz.func114 rfl (H _ (by decide)) Tryz.ntmps114 (by decide) ?_
    intro env U
    refine sg 1 J (qA U J (nK (rS (sg 3 J (qM U J (qC U J (CR.mono (left_cr H hR oA) ?_)))))))
    rintro v ⟨hh1, cc1⟩ ⟨rfl, rfl, hk⟩
    try dsimp only at hk
    refine qB U J J J (nK (rF U rfl (by simp; omega) ?_))
    refine rK (kN (sg 7 J (qM U J (qC U J (CR.mono (get_cr H hR oA oA oA (n := 24)) ?_)))))
    rintro v ⟨hh2, cc2⟩ ⟨rfl, hR1, hK1⟩
    refine qM U J (qE U J J (qE U J J (qA U J (qA U J (nK (sg 7 J ?_))))))
    have hcc1 := hK1.1
    dsimp only at hcc1 hR1
    refine qM U J (qC U J (CR.mono (get_cr H hR1 oA oA oA (n := 24)) ?_))
    rintro v ⟨hh3, cc3⟩ ⟨rfl, hR2, hK2⟩
    refine qM U J (qE U J J (qE U J J (qA U J (qA U J (nK (rS (sg 6 J ?_)))))))
    have hcc2 := hK2.1
    dsimp only at hcc2 hR2
    simp only [d24]
    have hb5 := ((hK2.2 b (by omega) (by simpa using Ne.symm hrW.1)).trans (hK1.2 b (by omega) (by simpa using Ne.symm hrW.1))).trans hb
    have kk := (((hK1.base (c0 := c0) (by omega)).up (c3 := cc2 + 7) (by omega)).call hK2 (fun x hx => .inr hx)).weak (W' := r :: b :: bW) (by simp)
    have hB2 := hB.move (g' := hh3.get) (fun z hz => (hK2.2 z (by have := hc.2 z (by simp [hz]); omega) (by simp; rintro rfl; exact hrW.2 hz)).trans (hK1.2 z (by have := hc.2 z (by simp [hz]); omega) (by simp; rintro rfl; exact hrW.2 hz)))
    have hlu : u.level * u.unit ≤ 9 * 100000 := Nat.mul_le_mul hlv.2 g2
    have hlu2 : 1 * 24 ≤ u.level * u.unit := Nat.mul_le_mul hlv.1 g1
    refine qM U J (qH U J Tryz.underlying38 Tryz.underlying218 wA ?_)
    refine qB U J J (shlU64 _ _ oA) ?_
    refine qM U J (qH U J Tryz.underlying38 Tryz.underlying218 wA ?_)
    refine qB U J J (orU64 _ _ oA oA) ?_
    refine nK (rB (sg 2 J (qB U J J J (qA U J (nK ?_)))))
    refine rC U rfl (fun hm => ?_) (fun hm => ?_)
    · try simp only [dz, dy] at hm
      refine rS (rD [] (by decide +kernel) (by decide +kernel) (n := 15) rfl ?_)
      refine qM U J (qN U J (qF U J fa121_3 (qL U rfl (by first | assumption | (simp only [gs, hb5]; rfl) | (simp [gs, hb5]; try rfl)) ((p3.1 _ _).trans rfl) ?_)))
      refine qM U J (qN U J (qF U J fa121_0 (qL U rfl (by first | assumption | (simp only [gs, hb5]; rfl) | (simp [gs, hb5]; try rfl)) ((p3.1 _ _).trans rfl) ?_)))
      refine q_mul U rfl rfl (m := ((u.level * u.unit : Nat) : Int)) (by rw [← Int.natCast_mul, wrapI oA oA]) ?_
      refine qC U J (CR.mono (blNew_cr H (room := u.level * u.unit) ⟨by omega, by omega⟩) ?_)
      rintro v ⟨hh4, cc4⟩ ⟨p, rfl, hBl, hp1, hp2, hK4⟩
      refine qM U J (qE U J J (qE U J J (qA U J (qA U J (ro_nild (kN (sg 5 J ?_)))))))
      have hcc4 := hK4.1
      dsimp only at hcc4 hBl hp2
      have hb5 := (hK4.2 b (by omega) (by simp)).trans hb5
      refine qM U J (qM U J (qN U J (qF U J fa121_4 (qW U rfl rfl (by first | assumption | (simp only [gs, hb5]; rfl) | (simp [gs, hb5]; try rfl)) p119 rfl rfl (by first | decide | (simp; done) | (simp; omega)) ?_))))
      refine nK (sg 4 J (qM U J (qN U J (qF U J fa121_1 (qW U rfl rfl (by first | assumption | (simp only [gs, hb5]; rfl) | (simp [gs, hb5]; try rfl)) p118 rfl rfl (by first | decide | (simp; done) | (simp; omega)) ?_)))))
      refine nK (sg 2 J (qM U J (qA U J (nK (rR (k_bloR (kR (f_1 U J (.inl J) J ?_))))))))
      have hpb : p ≠ b := by omega
      rw [if_pos (by omega)]
      refine ⟨⟨⟨rfl, rfl⟩, hR2.move (by dsimp only; rw [T.get_set, if_neg hrW.1, T.get_set, if_neg hrW.1]; exact hK4.2 r oA (by simp)), b :: [p], ⟨⟨g1, g2, by dsimp only; omega, g4, fun _ => hlv, g6, fun _ => ⟨_, rfl, rfl, fun x hx => by cases hx⟩, g7.2⟩, ptr p, [p], ?_, ⟨p, rfl, hBl.move (fun z hz => ?_)⟩, rfl⟩, fun z hz => ?_⟩, ?_⟩
      · dsimp only; rw [T.get_set, if_pos rfl]; rfl
      · simp only [List.mem_singleton] at hz; subst hz; dsimp only; rw [T.get_set, if_neg hpb, T.get_set, if_neg hpb]
      · simp only [List.mem_cons, List.not_mem_nil, or_false] at hz; rcases hz with q | q
        · left; simp [q]
        · right; dsimp only; omega
      · have k2 := (kk.up (c3 := cc3 + 6 + 2 + 15) (by omega)).call hK4 (by simp)
        exact ((k2.set (nm := b) (.inr (by simp))).set (nm := b) (.inr (by simp))).up (by omega)
    · try simp only [dz, dy] at hm
      refine sg 2 J (qB U J J J (qA U J (nK ?_)))
      refine rC U rfl (fun hm2 => ?_) (fun hm2 => ?_)
      · try simp only [dz, dy] at hm2
        refine sg 4 J (qM U J (qN U J (qF U J fa121_1 (qW U rfl rfl (by first | assumption | (simp only [gs, hb5]; rfl) | (simp [gs, hb5]; try rfl)) p118 rfl rfl (by first | decide | (simp; done) | (simp; omega)) ?_))))
        refine nK (sg 1 J (qA U J (nK (rR (k_bloR (kR (f_1 U J (.inl J) J ?_)))))))
        rw [if_neg (by omega), if_pos (by omega)]
        refine ⟨⟨⟨rfl, rfl⟩, hR2.move (by dsimp only; rw [T.get_set, if_neg hrW.1]), b :: bW, ⟨⟨g1, g2, by dsimp only; omega, g4, fun _ => hlv, g6, fun q => absurd (show 3 = 2 from q) (by decide), g7.2⟩, bvv, bW, ?_, hB2.move (fun z hz => by dsimp only; rw [T.get_set, if_neg (fun e : z = b => hbW (e ▸ hz))]), rfl⟩, fun z hz => .inl hz⟩, (kk.set (nm := b) (.inr (by simp))).up oA⟩
        dsimp only; rw [T.get_set, if_pos rfl]; rfl
      · try simp only [dz, dy] at hm2
        refine rK (kO (kN (sg 1 J (qA U J (nK (rR (f_1 U J (.inl J) J ?_)))))))
        rw [if_neg (by omega), if_neg (by omega)]
        exact ⟨⟨⟨rfl, rfl⟩, by decide, fun q => absurd q (by decide), ⟨_, _, hb5⟩, _, by omega, hR2⟩, kk.up (by omega)⟩
end
theorem Bl.step_live {b b' : Bl} {l : List Bool} {n : Nat} (h : b.step l = .ok (b', n)) (hd : b.done = false) : b'.done = false → b'.live := by
  intro hd'
  refine ⟨hd', fun x hx hw => ?_⟩
  simp only [Bl.step] at h
  cases hg : b.go l with
  | error e => rw [hg] at h; cases h
  | ok y =>
    obtain ⟨b1, n1⟩ := y
    rw [hg] at h
    simp only [Bl.fin] at h
    cases hr : b1.row with
    | none => rw [hr] at h; cases h; rw [hr] at hx; cases hx
    | some y =>
      rw [hr] at h
      simp only at h
      split at h
      · rename_i hc
        cases h
        rw [hr] at hx; cases hx
        rw [hw] at hc; simpa using hc
      · split at h
        · cases h
        · cases h; cases hd'
theorem Bl.fin_fields {b b' : Bl} (h : b.fin = .ok b') : b'.last = b.last ∧ b'.from_ = b.from_ ∧ b'.sum = b.sum ∧ b'.row = b.row ∧ b'.room = b.room ∧ (b'.done = true → b.done = true ∨ b.from_ < b.last.length) := by
  simp only [Bl.fin] at h
  split at h
  · cases h; exact ⟨rfl, rfl, rfl, rfl, rfl, fun q => .inl q⟩
  · split at h
    · cases h; exact ⟨rfl, rfl, rfl, rfl, rfl, fun q => .inl q⟩
    · split at h
      · cases h
      · cases h; exact ⟨rfl, rfl, rfl, rfl, rfl, fun _ => .inr (by omega)⟩
theorem Bl.go_done {b b' : Bl} {l : List Bool} {n : Nat} (h : b.go l = .ok (b', n)) : b'.done = b.done := by
  simp only [Bl.go] at h
  split at h
  · split at h
    · cases h
    · split at h <;> cases h; rfl
  · split at h
    · cases hu : usedR l with
      | error e => rw [hu] at h; cases h
      | ok y => rw [hu] at h; cases h; rfl
    · split at h
      · cases h; rfl
      · rename_i x _ _
        cases hu : x.step l with
        | error e => rw [hu] at h; cases h
        | ok y => rw [hu] at h; cases h; rfl
theorem Bl.step_done {b b' : Bl} {l : List Bool} {n : Nat} (h : b.step l = .ok (b', n)) (hd : b.done = false) (hd' : b'.done = true) : b'.from_ < b'.last.length := by
  simp only [Bl.step] at h
  cases hg : b.go l with
  | error e => rw [hg] at h; cases h
  | ok y =>
    obtain ⟨b1, n1⟩ := y
    rw [hg] at h
    simp only at h
    cases hf : b1.fin with
    | error e => rw [hf] at h; cases h
    | ok b2 =>
      rw [hf] at h; cases h
      obtain ⟨f1, f2, f3, f4, f5, f6⟩ := Bl.fin_fields hf
      rcases f6 hd' with q | q
      · rw [Bl.go_done hg, hd] at q; cases q
      · rw [f1, f2]; exact q
theorem BlR.last_le {b : Bl} {p : Nat} {W : List Nat} {g : Nat → Option Blk} (h : BlR b p W g) (hf : b.from_ < b.last.length) : b.last.length ≤ 900000 := by
  obtain ⟨⟨g1, g2, g3, g4, g5, g6, g7, g8⟩, la, cp, rv, rW, h1, h2, h3, h4, rfl⟩ := h
  cases hr : b.row with
  | none => rw [g7 hr]; simp
  | some x =>
    obtain ⟨k1, k2⟩ := g8 x hr
    rw [hr] at h3
    obtain ⟨rb, _, _, _, _, _, _, _, _, _, hZ, _⟩ := h3
    have := hZ.1.2.2.2.1
    omega
section
variable {ov : OvT} (H : OvH ov)
include H
theorem unBody_cr {h : Heap} {c0 b r dr at_ : Nat} {all : List Bool} {u : Un} {W : List Nat} (hP : UnR u b W h.get) (hR : BitR all dr at_ (h.get r)) (hc : r < c0 ∧ ∀ z ∈ W, z < c0) (hd : u.due = 2) :
    CR Tryz.prog ov 115 [ptr b, ptr r] ⟨h, c0⟩ (fun v st => UnPost h c0 all dr at_ r b W u V2 (u.body (all.drop at_)) v st) := by
  have hrW := hP.r_ne hR
  have hP0 := hP
  obtain ⟨⟨g1, g2, g3, g4, g5, g6, g7⟩, bvv, bW, hb, hB, rfl⟩ := id hP
  obtain ⟨bl, hbl, hlive⟩ := g7.1 hd
  rw [hbl] at hB
  obtain ⟨p, rfl, hBl⟩ := hB
  simp only [List.mem_cons, not_or] at hrW
  have hbW : b ∉ bW := kind_ne hBl.kind hb (by dsimp only; decide)
  have hbc := hc.2 b (by simp)
  have hH := fun c' (q : c0 ≤ c') => blStep_cr H (c0 := c') hBl hR ⟨by omega, fun z hz => by have := hc.2 z (by simp [hz]); omega⟩ hlive.2 hlive.1
  simp only [Un.body, hbl]
  have hsub : ∀ z ∈ r :: bW, z ∈ r :: b :: bW := by intro z hz; simp only [List.mem_cons] at hz ⊢; rcases hz with q | q <;> simp [q]
  cases hs : bl.step (all.drop at_) with
  | error e =>
    simp only [hs, BlPost] at hH
    refine e_2 Tryz.func115 rfl (H _ (by decide)) Tryz.ntmps115 (by decide) ?_
    intro env U
    refine sg 2 J (qA U J (qA U J (nK (sg 7 J (qM U J (qN U J (qF U J fa121_4 (qL U J aA ((p119.1 _ _).trans J) ?_))))))))
    refine qM U J (qC U J (CR.mono (hH _ oA) ?_))
    rintro v ⟨hh1, cc1⟩ ⟨⟨rfl, he0, hsh, _, k, hk3, hR2⟩, hK⟩
    have hne0 : ((e : Int) != 0) = true := by simp; omega
    have hb1 := (hK.2 b (by omega) (by simp [Ne.symm hrW.1, hbW])).trans hb
    refine qA U J (nK (rS (sg 10 J (qM U J (qB U J J J (qM U J (qS U rfl rfl rfl rfl (by rw [hne0]; decide) ?_)))))))
    refine qS U rfl rfl rfl rfl (by rw [hne0]; decide) ?_
    refine qS U rfl rfl rfl rfl (by rw [hne0]; decide) ?_
    refine qS U rfl rfl rfl rfl (by rw [hne0]; decide) ?_
    refine q_skipW U rfl rfl rfl rfl (by rw [hne0]; decide) ?_
    refine qS U rfl rfl rfl rfl (by rw [hne0]; decide) ?_
    refine qQ U J J J (if_pos hne0) (nK (rT U rfl (by rfl) ?_))
    refine sg 3 J (qM U J (qA U J (qA U J (nK (rR (kR (f_2 U J (.inl J) J J ?_)))))))
    refine ⟨⟨rfl, he0, fun q => ⟨(hsh q).1, ⟨g1, g2, g3, g4, g5, g6, g7⟩, ptr p, bW, hb1, by rw [hbl]; exact ⟨p, rfl, (hsh q).2⟩, rfl⟩, ⟨_, _, hb1⟩, k, hk3, hR2⟩, ((hK.base oA).weak hsub).up oA⟩
  | ok y =>
    obtain ⟨b', n⟩ := y
    simp only [hs, BlPost] at hH
    by_cases hdn : b'.done = true
    · have hfl := Bl.step_done hs hlive.1 hdn
      simp only [hdn, Bool.not_true, Bool.false_eq_true, if_false]
      refine e_2 Tryz.func115 rfl (H _ (by decide)) Tryz.ntmps115 (by decide) ?_
      intro env U
      refine sg 2 J (qA U J (qA U J (nK (sg 7 J (qM U J (qN U J (qF U J fa121_4 (qL U rfl (by first | assumption | (simp only [gs, hb3]; rfl) | (simp [gs, hb3]; try rfl)) ((p119.1 _ _).trans rfl) ?_))))))))
      refine qM U J (qC U J (CR.mono (hH _ oA) ?_))
      rintro v ⟨hh1, cc1⟩ ⟨⟨rfl, hR2, W', hB2, hW2⟩, hK⟩
      refine qA U J (nK (rS (sg 10 J ?_)))
      have hb3 := (hK.2 b (by omega) (by simp [Ne.symm hrW.1, hbW])).trans hb
      have hcc1 := hK.1
      dsimp only at hcc1 hR2 hB2 hW2
      refine qM U J (qB U J J J (qM U J (qG U J J J J (qM U J (qG U J J J J (qN U J (qG U J J J J (qF U J fa121_4 (qG U J J J J (qL U rfl (by first | assumption | (simp only [gs, hb3]; rfl) | (simp [gs, hb3]; try rfl)) ((p119.1 _ _).trans rfl) ?_))))))))))
      refine qG U J J J J (qC U J (CR.mono (blDone_cr H hB2) ?_))
      rintro v ⟨hh2, cc2⟩ ⟨rfl, rfl, hk⟩
      try dsimp only at hk
      refine qG U J J J J (q_un U J J (qQ U J J J (J) (nK (rF U rfl (by simp [hdn]) ?_))))
      refine rK (kN (sg 9 J (qM U J (qM U J (qN U J (qF U J fa121_4 (qL U rfl (by first | assumption | (simp only [gs, hb3]; rfl) | (simp [gs, hb3]; try rfl)) ((p119.1 _ _).trans rfl) ?_)))))))
      refine qC U J (CR.mono (blGot_cr H hB2 (fun z hz => by rcases hW2 z hz with q | q; (have := hc.2 z (by simp [q]); omega); omega) hdn) ?_)
      rintro v ⟨hh3, cc3⟩ ⟨rfl, hK3⟩
      have hb3 := (hK3.2 b (by omega) (by simp)).trans hb3
      have hcc3 := hK3.1
      dsimp only at hcc3
      refine qN U J (qF U J fa121_5 (qV U rfl rfl (by first | assumption | (simp only [gs, hb3]; rfl) | (simp [gs, hb3]; try rfl)) p40 rfl rfl (by simp) ?_))
      refine nK (sg 4 J (qM U J (qN U J (qF U J fa121_4 (qW U rfl rfl (by first | assumption | (simp only [gs, hb3]; rfl) | (simp [gs, hb3]; try rfl)) p119 rfl rfl (by simp [setCells, Value.cells]) ?_)))))
      refine nK (rS (rD [] (by decide +kernel) (by decide +kernel) (n := 14) rfl ?_))
      refine qM U J (qM U J (qN U J (qF U J fa121_6 (qL U rfl (by first | assumption | (simp only [gs, hb3]; rfl) | (simp [gs, hb3]; try rfl)) ((p38.1 _ _).trans rfl) ?_))))
      refine qM U J (qN U J (qF U J fa121_5 (qF U J fa40_2 (qL U rfl (by first | assumption | (simp only [gs, hb3]; rfl) | (simp [gs, hb3]; try rfl)) ((p38.1 _ _).trans rfl) ?_))))
      refine qC U J (CR.mono (combine_cr H g6 hB2.1.2.2.2.1) ?_)
      rintro v ⟨hh4, cc4⟩ ⟨rfl, rfl, hk⟩
      try dsimp only at hk
      refine qN U J (qF U J fa121_6 (qW U rfl rfl (by first | assumption | (simp only [gs, hb3]; rfl) | (simp [gs, hb3]; try rfl)) p38 rfl rfl (by simp [setCells, Value.cells]) ?_))
      refine ro_nild (kN (sg 4 J (qM U J (qN U J (qF U J fa121_1 (qW U rfl rfl (by first | assumption | (simp only [gs, hb3]; rfl) | (simp [gs, hb3]; try rfl)) p118 rfl rfl (by simp [setCells, Value.cells]) ?_))))))
      refine nK (sg 2 J (qA U J (qA U J (nK (rR (f_2 U J (.inl J) J J ?_))))))
      refine ⟨⟨rfl, hR2.move (by dsimp only; rw [T.get_set, if_neg hrW.1, T.get_set, if_neg hrW.1, T.get_set, if_neg hrW.1, T.get_set, if_neg hrW.1]; exact hK3.2 r oA (by simp)), [b], ⟨⟨g1, g2, by dsimp only; omega, g4, fun _ => g5 oA, Nat.xor_lt_two_pow (n := 32) (Nat.xor_lt_two_pow (n := 32) oA oA) hB2.1.2.2.2.1, fun q => absurd (show 1 = 2 from q) (by decide), hB2.1.2.2.2.2.1, hB2.last_le hfl, hB2.1.2.2.2.1⟩, .pointer none, [], ?_, ⟨rfl, rfl⟩, rfl⟩, fun z hz => .inl (by simp only [List.mem_singleton] at hz; simp [hz])⟩, ?_⟩
      · dsimp only; rw [T.get_set, if_pos rfl]; rfl
      · have k1 := (((hK.base (c0 := c0) (by omega)).weak hsub).up (c3 := cc2 + 9) (by omega)).call hK3 (by simp)
        exact ((((k1.set (nm := b) (.inr (by simp))).set (nm := b) (.inr (by simp))).set (nm := b) (.inr (by simp))).set (nm := b) (.inr (by simp))).up (by omega)
    · have hdn' : b'.done = false := by simpa using hdn
      have hlv := Bl.step_live hs hlive.1 hdn'
      simp only [hdn', Bool.not_false, if_true]
      refine e_2 Tryz.func115 rfl (H _ (by decide)) Tryz.ntmps115 (by decide) ?_
      intro env U
      refine sg 2 J (qA U J (qA U J (nK (sg 7 J (qM U J (qN U J (qF U J fa121_4 (qL U J aA ((p119.1 _ _).trans J) ?_))))))))
      refine qM U J (qC U J (CR.mono (hH _ oA) ?_))
      rintro v ⟨hh1, cc1⟩ ⟨⟨rfl, hR2, W', hB2, hW2⟩, hK⟩
      refine qA U J (nK (rS (sg 10 J ?_)))
      have hb1 := (hK.2 b (by omega) (by simp [Ne.symm hrW.1, hbW])).trans hb
      refine qM U J (qB U J J J (qM U J (qG U J J J J (qM U J (qG U J J J J (qN U J (qG U J J J J (qF U J fa121_4 (qG U J J J J (qL U J aA ((p119.1 _ _).trans J) ?_))))))))))
      refine qG U J J J J (qC U J (CR.mono (blDone_cr H hB2) ?_))
      rintro v ⟨hh2, cc2⟩ ⟨rfl, rfl, hk⟩
      try dsimp only at hk
      refine qG U J J J J (q_un U J J (qQ U J J J (J) (nK (rT U rfl (by simp [hdn']) ?_))))
      refine sg 3 J (qM U J (qA U J (qA U J (nK (rR (kR (f_2 U J (.inl J) J J ?_)))))))
      refine ⟨⟨rfl, hR2, b :: W', ⟨⟨g1, g2, g3, g4, g5, g6, fun _ => ⟨b', rfl, hlv⟩, g7.2⟩, ptr p, W', hb1, ⟨p, rfl, hB2⟩, rfl⟩, fun z hz => ?_⟩, ((hK.base oA).weak hsub).up oA⟩
      rcases List.mem_cons.mp hz with q | q
      · left; simp [q]
      · rcases hW2 z q with q2 | q2; (left; simp [q2]); (right; dsimp only at *; omega)
theorem unSum_cr {h : Heap} {c0 b r dr at_ : Nat} {all : List Bool} {u : Un} {W : List Nat} (hP : UnR u b W h.get) (hR : BitR all dr at_ (h.get r)) (hc : r < c0 ∧ ∀ z ∈ W, z < c0) :
    CR Tryz.prog ov 116 [ptr b, ptr r] ⟨h, c0⟩ (fun v st => UnPost h c0 all dr at_ r b W u V2 (u.sumS (all.drop at_)) v st) := by
  have hrW := hP.r_ne hR
  have hP0 := hP
  have h8 : all.length % 8 = 0 := by obtain ⟨s, _, _, h2, _⟩ := hR; omega
  obtain ⟨⟨g1, g2, g3, g4, g5, g6, g7⟩, bvv, bW, hb, hB, rfl⟩ := id hP
  simp only [List.mem_cons, not_or] at hrW
  have hbW : b ∉ bW := kind_ne hB.kind hb (by dsimp only; decide)
  have hbc := hc.2 b (by simp)
  have hln : (all.drop at_).length = all.length - at_ := List.length_drop
  simp only [Un.sumS]
  refine e_2 Tryz.func116 rfl (H _ (by decide)) Tryz.ntmps116 (by decide) ?_
  intro env U
  refine sg 2 J (qA U J (qA U J (nK (sg 7 J (qM U J (qC U J (CR.mono ((get_any H hR oA oA (n := 32))) ?_)))))))
  rintro v ⟨hh1, cc1⟩ ⟨e9, w9, rfl, hG, hGK⟩
  have hcc1 : c0 + 2 + 7 ≤ cc1 := hGK.1
  have hb1 := (hGK.2 b (by omega) (by simpa using Ne.symm hrW.1)).trans hb
  have hK1 := (hGK.base (c0 := c0) (by omega)).weak (W' := r :: b :: bW) (by simp)
  refine qM U J (qE U J J (qE U J J (qA U J (qA U J (nK (rS (rB (sg 3 J (qM U J (qB U J J J (qA U J (nK ?_))))))))))))
  refine rC U rfl (fun he => ?_) (fun he => ?_)
  · try simp only [dz, dy] at he
    refine sg 3 J (qM U J (qA U J (qA U J (nK (rR (k_bloR (kR (f_2 U J (.inl J) J J ?_))))))))
    rcases hG with ⟨hlt, rfl, _, hR4⟩ | ⟨_, rfl, _, _⟩
    · rw [if_pos (by omega)]
      exact ⟨⟨rfl, by decide, fun _ => ⟨hR4, hP0.move (fun z hz => hGK.2 z (by have := hc.2 z hz; omega) (by simp; rintro rfl; simp only [List.mem_cons] at hz; rcases hz with q | q; (exact hrW.1 q); (exact hrW.2 q)))⟩, ⟨_, _, hb1⟩, at_, Nat.le_refl _, hR4⟩, hK1.up (by omega)⟩
    · simp at he
  · try simp only [dz, dy] at he
    rcases hG with ⟨_, rfl, _, _⟩ | ⟨hle, _, rfl, hR4⟩
    · simp at he
    rw [if_neg (by omega)]
    refine sg 7 J (qM U J (qM U J (qN U J (qF U J fa121_6 (qL U rfl (by first | assumption | (simp only [gs, hb2]; rfl) | (simp [gs, hb2]; try rfl)) ((p38.1 _ _).trans rfl) ?_)))))
    refine qB U J J J (qA U J (nK ?_))
    refine rC U rfl (fun hne => ?_) (fun hne => ?_)
    · try simp only [dz, dy] at hne
      refine sg 2 J (qA U J (qA U J (nK (rR (k_bloR (kR (f_2 U J (.inl J) J J ?_)))))))
      rw [if_pos (by omega)]
      exact ⟨⟨rfl, by decide, fun q => absurd q (by decide), ⟨_, _, hb1⟩, _, by omega, hR4⟩, hK1.up (by omega)⟩
    · try simp only [dz, dy] at hne
      refine rK (kO (kN (sg 2 J (qM U J (qC U J (CR.mono (align_cr H hR4) ?_))))))
      rintro v ⟨hh2, cc2⟩ ⟨hR5, hK2⟩
      refine nK (sg 4 J ?_)
      have hcc2 := hK2.1
      dsimp only at hcc2 hR5
      have hb2 := (hK2.2 b (by omega) (by simpa using Ne.symm hrW.1)).trans hb1
      refine qM U J (qN U J (qF U J fa121_1 (qW U rfl rfl (by first | assumption | (simp only [gs, hb2]; rfl) | (simp [gs, hb2]; try rfl)) p118 rfl rfl (by first | decide | (simp; done) | (simp; omega)) ?_)))
      refine nK (sg 4 J (qM U J (qN U J (qF U J fa121_7 (qW U rfl rfl (by first | assumption | (simp only [gs, hb2]; rfl) | (simp [gs, hb2]; try rfl)) p4 rfl rfl (by first | decide | (simp; done) | (simp; omega)) ?_)))))
      refine nK (sg 2 J (qA U J (qA U J (nK (rR (f_2 U J (.inl J) J J ?_))))))
      have ea : (at_ + 32 + 7) / 8 * 8 = at_ + (32 + (all.length - at_ - 32) % 8) := by omega
      rw [if_neg (by simp only [bne_eq_false_iff_eq] at hne; omega)]
      refine ⟨⟨rfl, ?_, b :: bW, ⟨⟨g1, g2, by dsimp only; omega, g4, fun q => absurd rfl q, g6, fun q => absurd (show 0 = 2 from q) (by decide), g7.2⟩, bvv, bW, ?_, hB.move (fun z hz => ?_), rfl⟩, fun z hz => .inl hz⟩, ?_⟩
      · rw [hln, ← ea]; exact hR5.move (by dsimp only; rw [T.get_set, if_neg hrW.1, T.get_set, if_neg hrW.1])
      · dsimp only; rw [T.get_set, if_pos rfl]; rfl
      · have hzb : z ≠ b := fun e => hbW (e ▸ hz)
        have hzr : z ≠ r := fun e => hrW.2 (e ▸ hz)
        have hzc := hc.2 z (by simp [hz])
        dsimp only; rw [T.get_set, if_neg hzb, T.get_set, if_neg hzb, hK2.2 z (by omega) (by simpa using hzr)]; exact hGK.2 z (by omega) (by simpa using hzr)
      · exact ((((hK1.up (c3 := cc1 + 3 + 7 + 2) (by omega)).call hK2 (fun z hz => .inr (by simp only [List.mem_singleton] at hz; simp [hz]))).set (nm := b) (.inr (by simp))).set (nm := b) (.inr (by simp))).up (by omega)
end
theorem UnPost.mv {h : Heap} {c0 c' : Nat} {all : List Bool} {dr at_ r b : Nat} {W : List Nat} {u : Un} {V : Nat → Value → Nat → Prop} {res : Except Nat (Un × Nat × Nat)} {v : Value} {h1 : Heap} {c1 c2 : Nat} (hp : UnPost h c' all dr at_ r b W u V res v ⟨h1, c1⟩) (hb : c0 ≤ c') (hc : c1 ≤ c2) : UnPost h c0 all dr at_ r b W u V res v ⟨h1, c2⟩ := by
  obtain ⟨q, k⟩ := hp
  refine ⟨?_, (k.base hb).up hc⟩
  cases res with
  | ok y => obtain ⟨u', w, n⟩ := y; obtain ⟨q1, q2, W', q3, q4⟩ := q; exact ⟨q1, q2, W', q3, fun z hz => (q4 z hz).imp id (fun q => by dsimp only at *; omega)⟩
  | error e => exact q
theorem UnPost.v12 {h : Heap} {c0 : Nat} {all : List Bool} {dr at_ r b : Nat} {W : List Nat} {u : Un} {res : Except Nat (Un × Nat × Nat)} {v : Value} {st : St} (hp : UnPost h c0 all dr at_ r b W u V1 res v st) : UnPost h c0 all dr at_ r b W u V2 res (.tuple #[nv 0, v]) st := by
  obtain ⟨q, k⟩ := hp
  refine ⟨?_, k⟩
  cases res with
  | ok y => obtain ⟨u', w, n⟩ := y; obtain ⟨⟨rfl, rfl⟩, q2⟩ := q; exact ⟨rfl, q2⟩
  | error e => obtain ⟨⟨rfl, _⟩, q2⟩ := q; exact ⟨rfl, q2⟩
theorem UnPost.tup {h : Heap} {c0 : Nat} {all : List Bool} {dr at_ r b : Nat} {W : List Nat} {u : Un} {res : Except Nat (Un × Nat × Nat)} {v : Value} {st : St} (hp : UnPost h c0 all dr at_ r b W u V2 res v st) : ∃ w e, v = .tuple #[nv w, nv e] ∧ UnPost h c0 all dr at_ r b W u V2 res (.tuple #[nv w, nv e]) st := by
  obtain ⟨q, k⟩ := id hp
  cases res with
  | ok y => obtain ⟨u', w, n⟩ := y; obtain ⟨rfl, q2⟩ := q; exact ⟨_, _, rfl, hp⟩
  | error e => obtain ⟨rfl, q2⟩ := q; exact ⟨_, _, rfl, hp⟩
section
variable {ov : OvT} (H : OvH ov)
include H
theorem unNew_cr {h : Heap} {c : Nat} {unit : Int} :
    CR Tryz.prog ov 16 [iv unit] ⟨h, c⟩ (fun v st => (if 24 ≤ unit ∧ unit ≤ 100000 then ∃ b, v = .tuple #[ptr b, nv 0] ∧ UnR (Un.new unit.toNat) b [b] st.heap.get ∧ c ≤ b ∧ b < st.ctr else v = .tuple #[.pointer none, nv 1]) ∧ Keep [] h c st) := by
  by_cases hu : 24 ≤ unit ∧ unit ≤ 100000
  · simp only [if_pos hu]
    have hr := fun c' => room_cr H (h := h) (c := c') (u := unit)
    simp only [if_pos hu] at hr
    have e1 : ((unit.toNat : Nat) : Int) = unit := by omega
    refine e_1 Tryz.func16 rfl (H _ (by decide)) Tryz.ntmps16 (by decide) ?_
    intro env U
    refine sg 2 J (qA U J (qA U J (nK (rS (sg 7 J (qM U J (qC U J (CR.mono (hr _) ?_))))))))
    rintro v ⟨hh1, cc1⟩ ⟨⟨x, rfl⟩, rfl, hk⟩
    try dsimp only at hk
    refine qM U J (qE U J J (qE U J J (qA U J (qA U J (nK (sg 2 J (qM U J (qB U J J J (nK (rF U J dA ?_))))))))))
    refine rK (kN (sg 5 J (qM U J (qU U rfl i121 z121 rfl (by simp [Program.built, Instr.fill, Tryz.underlying121, Value.cells]; rfl) ?_))))
    refine q_box U J (qA U J (qA U J (nK (rR (f_2 U J (.inl J) J J ?_)))))
    refine ⟨⟨cc1 + 2 + 2, rfl, ⟨⟨by dsimp only [Un.new]; omega, by dsimp only [Un.new]; omega, Nat.zero_le _, Nat.zero_le _, fun q => absurd rfl q, by dsimp only [Un.new]; omega, fun q => absurd (show 0 = 2 from q) (by decide), by simp [Un.new], Nat.zero_le _, by dsimp only [Un.new]; omega⟩, .pointer none, [], ?_, ⟨rfl, rfl⟩, rfl⟩, by omega, by dsimp only; omega⟩, ((Keep.refl (Nat.le_refl c)).set (.inl oA)).up oA⟩
    dsimp only; rw [T.get_set, if_pos rfl]; simp only [Un.new]; rw [show (nv unit.toNat : Value) = iv unit from congrArg (Value.int .i64) e1]; rfl
  · simp only [if_neg hu]
    have hr := fun c' => room_cr H (h := h) (c := c') (u := unit)
    simp only [if_neg hu] at hr
    refine e_1 Tryz.func16 rfl (H _ (by decide)) Tryz.ntmps16 (by decide) ?_
    intro env U
    refine sg 2 J (qA U J (qA U J (nK (rS (sg 7 J (qM U J (qC U J (CR.mono (hr _) ?_))))))))
    rintro v ⟨hh1, cc1⟩ ⟨⟨x, rfl⟩, rfl, hk⟩
    try dsimp only at hk
    refine qM U J (qE U J J (qE U J J (qA U J (qA U J (nK (sg 2 J (qM U J (qB U J J J (nK (rT U J dA ?_))))))))))
    refine sg 3 J (qM U J (qA U J (qA U J (nK (rR (kR (f_2 U J (.inl J) J J ?_)))))))
    exact ⟨rfl, Keep.refl (by omega)⟩
theorem unMayEnd_cr {h : Heap} {c b : Nat} {u : Un} {W : List Nat} (hP : UnR u b W h.get) :
    CR Tryz.prog ov 18 [ptr b] ⟨h, c⟩ (fun v st => v = .bool u.mayEnd ∧ Same h c st) := by
  obtain ⟨_, bvv, bW, hb, hB, rfl⟩ := id hP
  refine e_1 Tryz.func18 rfl (H _ (by decide)) Tryz.ntmps18 (by decide) ?_
  intro env U
  refine sg 1 J (qA U J (nK (sg 30 J (qM U J (qB U J J (nn33 _) (qM U J (qG U J J J J (qM U J (qG U J J J J (qN U J (qG U J J J J (qF U J fa121_7 (qG U J J J J (qL U J aA ((p4.1 _ _).trans J) ?_))))))))))))))
  refine qQ U J J J (if_pos J) (qM U J ?_)
  refine q_case U (rfl : lk _ _ 11 = _) (fun h1 => ?_) (fun h1 => ?_)
  · have h1_ := h1
    try simp only [dz] at h1_
    refine qG U J J J h1 (qM U J (qG U J J J h1 (qN U J (qG U J J J h1 (qF U J fa121_1 (qG U J J J h1 (qL U J aA ((p118.1 _ _).trans J) ?_)))))))
    refine qG U J J J h1 (qB U J J J (qQ U J J J (if_pos h1) (qM U J ?_)))
    refine q_case U (rfl : lk _ _ 18 = _) (fun h2 => ?_) (fun h2 => ?_)
    · have h2_ := h2
      try simp only [dz] at h2_
      refine qG U J J J h2 (qM U J (qG U J J J h2 (qN U J (qG U J J J h2 (qF U J fa121_2 (qG U J J J h2 (qL U J aA ((p3.1 _ _).trans J) ?_)))))))
      refine qG U J J J h2 (qB U J J J (qQ U J J J (if_pos h2) (qM U J ?_)))
      refine q_case U (rfl : lk _ _ 25 = _) (fun h3 => ?_) (fun h3 => ?_)
      · have h3_ := h3
        try simp only [dz] at h3_
        refine qG U J J J h3 (qM U J (qG U J J J h3 (qN U J (qG U J J J h3 (qF U J fa121_8 (qG U J J J h3 (qL U J aA ((p23.1 _ _).trans J) ?_)))))))
        refine qG U J J J h3 (qB U J J J (qQ U J J J (if_pos h3) (qA U J (nK (rR (f_1 U J (.inl J) J ?_))))))
        refine ⟨?_, rfl, by simp <;> omega⟩
        have e1 : u.ended = true := h1
        have e2 : u.due = 0 := by simp at h2; omega
        have e3 : u.at_ = 0 := by simp at h3; omega
        simp [Un.mayEnd, e1, e2, e3]
      · have h3_ := h3
        try simp only [dz] at h3_
        refine qS U rfl rfl rfl rfl (by rw [h3]; decide) ?_
        refine qS U rfl rfl rfl rfl (by rw [h3]; decide) ?_
        refine qS U rfl rfl rfl rfl (by rw [h3]; decide) ?_
        refine qS U rfl rfl rfl rfl (by rw [h3]; decide) ?_
        refine qS U rfl rfl rfl rfl (by rw [h3]; decide) ?_
        refine qQ U rfl rfl rfl (if_neg (by rw [h3]; decide)) ?_
        refine qA U J (nK (rR (f_1 U J (.inl J) J ?_)))
        refine ⟨?_, rfl, by simp <;> omega⟩
        have e3 : u.at_ ≠ 0 := by simp at h3; omega
        simp [Un.mayEnd, e3]
    · have h2_ := h2
      try simp only [dz] at h2_
      refine qS U rfl rfl rfl rfl (by rw [h2]; decide) ?_
      refine qS U rfl rfl rfl rfl (by rw [h2]; decide) ?_
      refine qS U rfl rfl rfl rfl (by rw [h2]; decide) ?_
      refine qS U rfl rfl rfl rfl (by rw [h2]; decide) ?_
      refine qS U rfl rfl rfl rfl (by rw [h2]; decide) ?_
      refine qQ U rfl rfl rfl (if_neg (by rw [h2]; decide)) ?_
      refine qM U J (qS U rfl rfl rfl rfl (by decide) ?_)
      refine qS U rfl rfl rfl rfl (by decide) ?_
      refine qS U rfl rfl rfl rfl (by decide) ?_
      refine qS U rfl rfl rfl rfl (by decide) ?_
      refine qS U rfl rfl rfl rfl (by decide) ?_
      refine qQ U J J J (J) (qA U J (nK (rR (f_1 U J (.inl J) J ?_))))
      refine ⟨?_, rfl, by simp <;> omega⟩
      have e2 : u.due ≠ 0 := by simp at h2; omega
      simp [Un.mayEnd, e2]
  · have h1_ := h1
    try simp only [dz] at h1_
    refine qS U rfl rfl rfl rfl (by rw [h1]; decide) ?_
    refine qS U rfl rfl rfl rfl (by rw [h1]; decide) ?_
    refine qS U rfl rfl rfl rfl (by rw [h1]; decide) ?_
    refine qS U rfl rfl rfl rfl (by rw [h1]; decide) ?_
    refine qS U rfl rfl rfl rfl (by rw [h1]; decide) ?_
    refine qQ U rfl rfl rfl (if_neg (by rw [h1]; decide)) ?_
    refine qM U J (qS U rfl rfl rfl rfl (by decide) ?_)
    refine qS U rfl rfl rfl rfl (by decide) ?_
    refine qS U rfl rfl rfl rfl (by decide) ?_
    refine qS U rfl rfl rfl rfl (by decide) ?_
    refine qS U rfl rfl rfl rfl (by decide) ?_
    refine qQ U J J J (J) (qM U J (qS U rfl rfl rfl rfl (by decide) ?_))
    refine qS U rfl rfl rfl rfl (by decide) ?_
    refine qS U rfl rfl rfl rfl (by decide) ?_
    refine qS U rfl rfl rfl rfl (by decide) ?_
    refine qS U rfl rfl rfl rfl (by decide) ?_
    refine qQ U J J J (J) (qA U J (nK (rR (f_1 U J (.inl J) J ?_))))
    refine ⟨?_, rfl, by simp <;> omega⟩
    have e1 : u.ended = false := h1
    simp [Un.mayEnd, e1]
theorem unGot_cr {h : Heap} {c b : Nat} {u : Un} {W : List Nat} (hP : UnR u b W h.get) (hc : b < c) :
    CR Tryz.prog ov 19 [ptr b] ⟨h, c⟩ (fun v st => v = .agg #[.string (txt u.last), nv u.origin, uv u.gsum] ∧ Keep [] h c st) := by
  obtain ⟨_, bvv, bW, hb, hB, rfl⟩ := id hP
  refine e_1 Tryz.func19 rfl (H _ (by decide)) Tryz.ntmps19 (by decide) ?_
  intro env U
  refine sg 1 J (qZ i40 z40 J (nK (rS (sg 2 J (qM U J (qB U J J (nq33 _) (nK (rF U J dA ?_))))))))
  refine rK (kN (sg 5 J (qM U J (qN U J (qF U J fa121_5 (qL U J (T.get_set _ _ _ _ |>.trans ((if_neg oA).trans hb)) ((p40.1 _ _).trans J) ?_))))))
  refine qV U rfl rfl gA p40 rfl rfl (by simp [Value.cells]) ?_
  refine nK (rR (f_c U J (.inl J) J  (T.get_set _ _ _ _ |>.trans (if_pos J)) ((p40.1 _ _).trans J) ?_))
  refine ⟨rfl, (((Keep.refl (Nat.le_refl c)).set (.inl oA)).set (.inl oA)).up oA⟩
theorem unStep0_cr {h : Heap} {c0 b r dr at_ : Nat} {all : List Bool} {u : Un} {W : List Nat} (hP : UnR u b W h.get) (hR : BitR all dr at_ (h.get r)) (hc : r < c0 ∧ ∀ z ∈ W, z < c0) :
    CR Tryz.prog ov 73 [ptr b, ptr r] ⟨h, c0⟩ (fun v st => UnPost h c0 all dr at_ r b W u V2 (u.step (all.drop at_)) v st) := by
  obtain ⟨⟨g1, g2, g3, g4, g5, g6, g7⟩, bvv, bW, hb, hB, hW⟩ := id hP
  rcases (by omega : u.due = 0 ∨ u.due = 1 ∨ u.due = 2 ∨ u.due = 3) with hd | hd | hd | hd
  · have hH := fun c' (q : c0 ≤ c') => unLetter_cr H (c0 := c') hP hR ⟨by omega, fun z hz => by have := hc.2 z hz; omega⟩ hd
    have hst : u.step (all.drop at_) = u.letter (all.drop at_) := by simp [Un.step, hd]
    rw [hst]
    refine e_2 Tryz.func73 rfl (H _ (by decide)) Tryz.ntmps73 (by decide) ?_
    intro env U
    refine sg 2 J (qA U J (qA U J (nK (rS (sg 4 J (qM U J (qN U J (qF U J fa121_1 (qL U J aA ((p118.1 _ _).trans J) ?_)))))))))
    refine nK (rB (sg 2 J (qB U J J J (qA U J (nK (rT U rfl (by simp [hd]) ?_))))))
    refine sg 5 J (qM U J (qM U J (qC U J (CR.mono (hH _ oA) ?_))))
    rintro v ⟨h9, c9⟩ hq
    refine qA U J (qA U J (nK (rR (k_bloR (kR (f_2 U J (.inl J) J J ?_))))))
    exact (UnPost.v12 hq).mv (by omega) (by omega)
  · have hH := fun c' (q : c0 ≤ c') => unMagic_cr H (c0 := c') hP hR ⟨by omega, fun z hz => by have := hc.2 z hz; omega⟩ hd
    have hst : u.step (all.drop at_) = u.magic (all.drop at_) := by simp [Un.step, hd]
    rw [hst]
    refine e_2 Tryz.func73 rfl (H _ (by decide)) Tryz.ntmps73 (by decide) ?_
    intro env U
    refine sg 2 J (qA U J (qA U J (nK (rS (sg 4 J (qM U J (qN U J (qF U J fa121_1 (qL U J aA ((p118.1 _ _).trans J) ?_)))))))))
    refine nK (rB (sg 2 J (qB U J J J (qA U J (nK (rF U rfl (by simp [hd]) ?_))))))
    refine sg 2 J (qB U J J J (qA U J (nK (rT U rfl (by simp [hd]) ?_))))
    refine sg 5 J (qM U J (qM U J (qC U J (CR.mono (hH _ oA) ?_))))
    rintro v ⟨h9, c9⟩ hq
    refine qA U J (qA U J (nK (rR (k_bloR (kR (f_2 U J (.inl J) J J ?_))))))
    exact (UnPost.v12 hq).mv (by omega) (by omega)
  · have hH := fun c' (q : c0 ≤ c') => unBody_cr H (c0 := c') hP hR ⟨by omega, fun z hz => by have := hc.2 z hz; omega⟩ hd
    have hst : u.step (all.drop at_) = u.body (all.drop at_) := by simp [Un.step, hd]
    rw [hst]
    refine e_2 Tryz.func73 rfl (H _ (by decide)) Tryz.ntmps73 (by decide) ?_
    intro env U
    refine sg 2 J (qA U J (qA U J (nK (rS (sg 4 J (qM U J (qN U J (qF U J fa121_1 (qL U J aA ((p118.1 _ _).trans J) ?_)))))))))
    refine nK (rB (sg 2 J (qB U J J J (qA U J (nK (rF U rfl (by simp [hd]) ?_))))))
    refine sg 2 J (qB U J J J (qA U J (nK (rF U rfl (by simp [hd]) ?_))))
    refine sg 2 J (qB U J J J (qA U J (nK (rT U rfl (by simp [hd]) ?_))))
    refine sg 7 J (qM U J (qM U J (qC U J (CR.mono ((hH _ oA).mono (fun v st q => UnPost.tup q)) ?_))))
    rintro v ⟨h9, c9⟩ ⟨w, e, rfl, hq⟩
    refine qE U J J (qE U J J (qA U J (qA U J (nK (rR (k_bloR (kR (f_2 U J (.inl J) J J ?_))))))))
    exact hq.mv (by omega) (by omega)
  · have hH := fun c' (q : c0 ≤ c') => unSum_cr H (c0 := c') hP hR ⟨by omega, fun z hz => by have := hc.2 z hz; omega⟩
    have hst : u.step (all.drop at_) = u.sumS (all.drop at_) := by simp [Un.step, hd]
    rw [hst]
    refine e_2 Tryz.func73 rfl (H _ (by decide)) Tryz.ntmps73 (by decide) ?_
    intro env U
    refine sg 2 J (qA U J (qA U J (nK (rS (sg 4 J (qM U J (qN U J (qF U J fa121_1 (qL U J aA ((p118.1 _ _).trans J) ?_)))))))))
    refine nK (rB (sg 2 J (qB U J J J (qA U J (nK (rF U rfl (by simp [hd]) ?_))))))
    refine sg 2 J (qB U J J J (qA U J (nK (rF U rfl (by simp [hd]) ?_))))
    refine sg 2 J (qB U J J J (qA U J (nK (rF U rfl (by simp [hd]) ?_))))
    refine rK (kO (kN (sg 7 J (qM U J (qM U J (qC U J (CR.mono ((hH _ oA).mono (fun v st q => UnPost.tup q)) ?_)))))))
    rintro v ⟨h9, c9⟩ ⟨w, e, rfl, hq⟩
    refine qE U J J (qE U J J (qA U J (qA U J (nK (rR (f_2 U J (.inl J) J J ?_))))))
    exact hq.mv (by omega) (by omega)
theorem unStep_cr {h : Heap} {c0 b r dr at_ : Nat} {all : List Bool} {u : Un} {W : List Nat} (hP : UnR u b W h.get) (hR : BitR all dr at_ (h.get r)) (hc : r < c0 ∧ ∀ z ∈ W, z < c0) :
    CR Tryz.prog ov 23 [ptr b, ptr r] ⟨h, c0⟩ (fun v st => UnPost h c0 all dr at_ r b W u V2 (u.step (all.drop at_)) v st) := by
  have hrW := hP.r_ne hR
  obtain ⟨_, bvv, bW, hb, hB, hWW⟩ := id hP
  have hbW : b ∈ W := by rw [hWW]; simp
  have hrb : r ≠ b := fun e => hrW (e ▸ hbW)
  have hbc := hc.2 b hbW
  have hH := fun c' (q : c0 ≤ c') => unStep0_cr H (c0 := c') hP hR ⟨by omega, fun z hz => by have := hc.2 z hz; omega⟩
  cases hg : u.step (all.drop at_) with
  | error e =>
    simp only [hg, UnPost, V2] at hH
    refine e_2 Tryz.func23 rfl (H _ (by decide)) Tryz.ntmps23 (by decide) ?_
    intro env U
    refine sg 2 J (qA U J (qA U J (nK (rS (rB (sg 7 J (qM U J (qB U J J (nq33 _) (qM U J (qG U J J J J (qM U J (qG U J J J J (qB U J J (nq36 _) (qQ U J J J (J) (qA U J (nK (rF U J dA ?_)))))))))))))))))
    refine sg 6 J (qM U J (qN U J (qF U J fa121_8 (qL U J aA ((p23.1 _ _).trans J) ?_))))
    refine qB U J J J (qA U J (nK (rF U J dA ?_)))
    refine rK (kO (kN (sg 8 J (qM U J (qM U J (qC U J (CR.mono (hH _ oA) ?_)))))))
    rintro v ⟨hh1, cc1⟩ ⟨⟨rfl, he0, hsh, ⟨y1, x1, hB⟩, k, hk3, hR2⟩, hK⟩
    refine qM U J (qE U J J (qE U J J (qA U J (qA U J (nK (rS (sg 2 J (qM U J (qB U J J J (nK ?_))))))))))
    refine rC U rfl (fun he => ?_) (fun he => ?_)
    · try simp only [dz, dy] at he
      refine rg 5 J (qM U J (qM U J (qN U J (qF U J fa121_8 (qW U rfl rfl aA p23 rfl rfl (by simp) ?_)))))
      refine nK (sg 4 J (qM U J (qM U J (qA U J (qA U J (nK (rR (f_2 U J (.inl J) J J ?_))))))))
      refine ⟨⟨rfl, he0, fun q => absurd q oA, ⟨_, _, (T.get_set _ _ _ _).trans (if_pos rfl)⟩, k, hk3, hR2.move (by dsimp only; rw [T.get_set, if_neg hrb])⟩, ((hK.base (c0 := c0) oA).set (nm := b) (.inr (by simp [hbW]))).up oA⟩
    · try simp only [dz, dy] at he
      refine rK (kN (sg 4 J (qM U J (qM U J (qA U J (qA U J (nK (rR (f_2 U J (.inl J) J J ?_)))))))))
      exact ⟨⟨rfl, he0, hsh, ⟨y1, x1, hB⟩, k, hk3, hR2⟩, (hK.base (by omega)).up (by omega)⟩
  | ok y =>
    obtain ⟨u', w, n⟩ := y
    simp only [hg, UnPost, V2] at hH
    refine e_2 Tryz.func23 rfl (H _ (by decide)) Tryz.ntmps23 (by decide) ?_
    intro env U
    refine sg 2 J (qA U J (qA U J (nK (rS (rB (sg 7 J (qM U J (qB U J J (nq33 _) (qM U J (qG U J J J J (qM U J (qG U J J J J (qB U J J (nq36 _) (qQ U J J J (J) (qA U J (nK (rF U J dA ?_)))))))))))))))))
    refine sg 6 J (qM U J (qN U J (qF U J fa121_8 (qL U J aA ((p23.1 _ _).trans J) ?_))))
    refine qB U J J J (qA U J (nK (rF U J dA ?_)))
    refine rK (kO (kN (sg 8 J (qM U J (qM U J (qC U J (CR.mono (hH _ oA) ?_)))))))
    rintro v ⟨hh1, cc1⟩ ⟨⟨rfl, hR2, W', hP2, hW2⟩, hK⟩
    obtain ⟨_, bvv2, bW2, hb2, _⟩ := id hP2
    refine qM U J (qE U J J (qE U J J (qA U J (qA U J (nK (rS (sg 2 J (qM U J (qB U J J J (nK (rT U J dA ?_)))))))))))
    refine rg 5 J (qM U J (qM U J (qN U J (qF U J fa121_8 (qW U rfl rfl aA p23 rfl rfl (by first | decide | (simp; done) | (simp; omega)) ?_)))))
    refine nK (sg 4 J (qM U J (qM U J (qA U J (qA U J (nK (rR (f_2 U J (.inl J) J J ?_))))))))
    have hsm := T_same hb2
    refine ⟨⟨rfl, hR2.move (by dsimp only; exact hsm r), W', hP2.move (fun z hz => by dsimp only; exact hsm z), fun z hz => (hW2 z hz).imp id (fun q => by dsimp only at *; omega)⟩, ((hK.base (c0 := c0) oA).set (nm := b) (.inr (by simp [hbW]))).up oA⟩
end
theorem getC_len (l : List Nat) {s m : Nat} : ∀ (b : List Bool) (n v : Nat), getC l n v b = .ok (s, m) → n ≤ m ∧ m < n + b.length := by
  intro b
  induction b with
  | nil => intro n v h; simp only [getC] at h; split at h <;> cases h
  | cons t b ih =>
    intro n v h; simp only [getC] at h
    split at h
    · cases h
    · split at h
      · cases h; simp
      · have := ih _ _ h; simp only [List.length_cons]; omega
theorem De.step_pos {d d' : De} {l : List Bool} {n : Nat} (h : d.step l = .ok (d', n)) : 0 < n ∧ n ≤ l.length := by
  simp only [De.step] at h
  repeat' split at h
  all_goals first | (cases h; done) | skip
  · cases h; omega
  · cases h; simp
  · cases h; simp
  · cases h; simp
theorem Co.step_pos {c c' : Co} {l : List Bool} {o : Option Nat} {n : Nat} (h : c.step l = .ok (c', o, n)) : 0 < n ∧ n ≤ l.length := by
  rw [Co.step_eq] at h
  split at h
  · cases hs : c.pk.step l with
    | error e => rw [hs] at h; cases h
    | ok y => rw [hs] at h; cases h; exact Pk.step_pos hs
  · split at h
    · simp only [Co.tab] at h
      cases hs : c.de.step l with
      | error e => rw [hs] at h; cases h
      | ok y =>
        obtain ⟨d, m⟩ := y
        have hp := De.step_pos hs
        rw [hs] at h
        simp only at h
        repeat' split at h
        all_goals first | (cases h; done) | (cases h; exact hp)
    · simp only [Co.sym] at h
      split at h
      · cases h
      · cases hs : getC (c.tabs.getD (c.pk.picks.getD (c.out.length / 50) 0) []) 1 0 l with
        | error e => rw [hs] at h; cases h
        | ok y => rw [hs] at h; cases h; have := getC_len _ _ _ _ hs; omega
def Bl.pend (b : Bl) : Nat := match b.row with
  | none => 0
  | some x => x.due + (if 0 < x.place then 1 else 0)
theorem Bl.step_pend {b b' : Bl} {l : List Bool} {n : Nat} (h : b.step l = .ok (b', n)) : n ≤ l.length ∧ (n = 0 → b'.pend < b.pend) := by
  simp only [Bl.step] at h
  cases hg : b.go l with
  | error e => rw [hg] at h; cases h
  | ok y =>
    obtain ⟨b1, n1⟩ := y
    rw [hg] at h
    simp only at h
    cases hf : b1.fin with
    | error e => rw [hf] at h; cases h
    | ok b2 =>
      rw [hf] at h; cases h
      have hrow := (Bl.fin_fields hf).2.2.2.1
      have hp : b'.pend = b1.pend := by simp only [Bl.pend, hrow]
      rw [hp]
      simp only [Bl.go] at hg
      split at hg
      · split at hg
        · cases hg
        · split at hg
          · cases hg
          · cases hg; omega
      · split at hg
        · cases hu : usedR l with
          | error e => rw [hu] at hg; cases hg
          | ok y => rw [hu] at hg; cases hg; have := usedR_ok hu; omega
        · rename_i x hx
          split at hg
          · rename_i hw
            cases hg
            refine ⟨Nat.zero_le _, fun _ => ?_⟩
            simp only [Bl.pend, hx]
            have hw2 : 0 < x.due ∨ 0 < x.place := by simp [Rw.waits] at hw; exact hw
            by_cases hd : 0 < x.due
            · simp only [Rw.next, if_pos hd]; omega
            · simp only [Rw.next, if_neg hd]; rw [if_pos (show 0 < x.place by omega)]; simp
          · cases hu : x.step l with
            | error e => rw [hu] at hg; cases hg
            | ok y =>
              rw [hu] at hg; cases hg
              simp only [Rw.step] at hu
              cases hc : x.co.step l with
              | error e => rw [hc] at hu; cases hu
              | ok z =>
                obtain ⟨c', o, m⟩ := z
                have hq := Co.step_pos hc
                rw [hc] at hu
                cases o with
                | none => cases hu; omega
                | some s =>
                  simp only at hu
                  cases hz : x.ze.put s with
                  | error e => rw [hz] at hu; cases hu
                  | ok w => rw [hz] at hu; cases hu; omega
def Un.pend (u : Un) : Nat := match u.block with
  | none => 0
  | some b => b.pend
theorem Un.step_pend {u u' : Un} {l : List Bool} {w n : Nat} (h : u.step l = .ok (u', w, n)) (U : u.due = 2 → ∃ b, u.block = some b ∧ b.live) : n ≤ l.length ∧ (n = 0 → u'.pend < u.pend) ∧ (w = 1 → u'.origin < u'.last.length) := by
  simp only [Un.step] at h
  split at h
  · simp only [Un.letter] at h
    repeat' split at h
    all_goals first | (cases h; done) | (cases h; exact ⟨by omega, by omega, by omega⟩)
  · split at h
    · simp only [Un.magic] at h
      repeat' split at h
      all_goals first | (cases h; done) | (cases h; exact ⟨by omega, by omega, by omega⟩)
    · split at h
      · rename_i h2
        obtain ⟨b, hb, hlv⟩ := U h2
        simp only [Un.body, hb] at h
        cases hs : b.step l with
        | error e => rw [hs] at h; cases h
        | ok y =>
          obtain ⟨b', m⟩ := y
          have hp := Bl.step_pend hs
          rw [hs] at h
          simp only at h
          by_cases hd : b'.done = true
          · rw [hd] at h; simp only [Bool.not_true, Bool.false_eq_true, if_false] at h
            cases h
            refine ⟨hp.1, fun q => ?_, fun _ => Bl.step_done hs hlv.1 hd⟩
            have := hp.2 q; simp only [Un.pend, hb]; omega
          · have hd' : b'.done = false := by simpa using hd
            rw [hd'] at h; simp only [Bool.not_false, if_true] at h
            cases h
            exact ⟨hp.1, fun q => by simp only [Un.pend, hb]; exact hp.2 q, fun q => absurd q (by decide)⟩
      · simp only [Un.sumS] at h
        repeat' split at h
        all_goals first | (cases h; done) | (cases h; refine ⟨?_, by omega, fun q => absurd q (by decide)⟩; have := Nat.mod_le (l.length - 32) 8; omega)
theorem UnR.pend_le {u : Un} {b : Nat} {W : List Nat} {g : Nat → Option Blk} (h : UnR u b W g) : u.pend ≤ 900001 := by
  obtain ⟨_, v, bW, h1, h2, rfl⟩ := h
  cases hb : u.block with
  | none => simp [Un.pend, hb]
  | some bl =>
    rw [hb] at h2
    obtain ⟨p, _, ⟨g1, g2, g3, g4, g5, g6, g7, g8⟩, la, cp, rv, rW, q1, q2, q3, q4, _⟩ := h2
    simp only [Un.pend, hb, Bl.pend]
    cases hr : bl.row with
    | none => simp
    | some x =>
      obtain ⟨k1, k2⟩ := g8 x hr
      rw [hr] at q3
      obtain ⟨rb, _, _, _, _, _, _, _, _, _, hZ, _⟩ := q3
      have := hZ.1.2.2.2.1
      simp only; omega
def withStep (p : Un × List Nat) (l : List Bool) : Except Nat ((Un × List Nat) × Nat) := match p.1.step l with
  | .error e => .error (if e = 3 then 24 else e)
  | .ok (u', w, n) => if w = 1 then match openR u'.last u'.origin u'.gsum with
      | .error e => .error e
      | .ok t => .ok ((u', p.2 ++ t), n)
    else .ok ((u', p.2), n)
def withFin (p : Un × List Nat) (l : List Bool) : Bool := p.1.mayEnd && l.length == 0
def WithR (unit : Nat) (l : List Bool) (r : Except Nat ((Un × List Nat) × Nat)) : Prop := Runs withStep withFin l (Un.new unit, []) 0 r
theorem Un.step_due {u u' : Un} {l : List Bool} {w n : Nat} (h : u.step l = .ok (u', w, n)) : (u'.due = 2 → u.due = 2 ∨ 1 ≤ n) ∧ (w = 1 → u.due = 2 ∧ u'.due = 1) := by
  simp only [Un.step] at h
  split at h
  · simp only [Un.letter] at h
    repeat' split at h
    all_goals first | (cases h; done) | (cases h; exact ⟨fun _ => .inr (by omega), by omega⟩)
  · split at h
    · simp only [Un.magic] at h
      repeat' split at h
      all_goals first | (cases h; done) | (cases h; exact ⟨fun _ => .inr (by omega), by omega⟩)
    · split at h
      · rename_i h2
        refine ⟨fun _ => .inl h2, fun hw => ⟨h2, ?_⟩⟩
        simp only [Un.body] at h
        repeat' split at h
        all_goals first | (cases h; done) | (cases h; omega) | (cases h; rfl)
      · simp only [Un.sumS] at h
        repeat' split at h
        all_goals first | (cases h; done) | (cases h; exact ⟨fun q => absurd (show 0 = 2 from q) (by decide), by omega⟩)
theorem UnPost.split {h : Heap} {c0 : Nat} {all : List Bool} {dr at_ r b w e : Nat} {W : List Nat} {u : Un} {res : Except Nat (Un × Nat × Nat)} {st : St} (hp : UnPost h c0 all dr at_ r b W u V2 res (.tuple #[nv w, nv e]) st) :
    ((res = .error e ∧ e ≠ 0) ∨ ∃ u' n, res = .ok (u', w, n) ∧ e = 0 ∧ BitR all dr (at_ + n) (st.heap.get r) ∧ ∃ W', UnR u' b W' st.heap.get ∧ ∀ z ∈ W', z ∈ W ∨ c0 ≤ z ∧ z < st.ctr) ∧ Keep (r :: W) h c0 st := by
  obtain ⟨q, k⟩ := hp
  refine ⟨?_, k⟩
  cases res with
  | ok y =>
    obtain ⟨u', w', n⟩ := y
    obtain ⟨q1, q2, q3⟩ := q
    simp only [V2, Value.tuple.injEq, Array.mk.injEq, List.cons.injEq, Value.int.injEq, true_and, and_true] at q1
    have e1 : w = w' := by omega
    have e2 : e = 0 := by omega
    subst e1
    exact .inr ⟨u', n, rfl, e2, q2, q3⟩
  | error e' =>
    obtain ⟨q1, q2, _⟩ := q
    simp only [V2, Value.tuple.injEq, Array.mk.injEq, List.cons.injEq, Value.int.injEq, true_and, and_true] at q1
    have e2 : e = e' := by omega
    subst e2
    exact .inl ⟨rfl, q2⟩
section
variable {ov : OvT} (H : OvB ov)
include H
theorem open_cr2 {h : Heap} {c o sum : Nat} {s : List Nat} (h256 : ∀ x ∈ s, x < 256) (hn : s.length ≤ 900000) (ho : o < s.length) (hs : sum < 4294967296) :
    CR Tryz.prog ov 64 [.agg #[.string (txt s), nv o, uv sum]] ⟨h, c⟩ (fun v st => ∃ (T : ByteArray) (e : Nat), v = .tuple #[.string T, nv e] ∧ ((e ≠ 0 ∧ openR s o sum = .error e) ∨ (e = 0 ∧ ∃ t, openR s o sum = .ok t ∧ T = txt t ∧ (∀ x ∈ t, x < 256) ∧ t.length ≤ 225900000)) ∧ Keep [] h c st) := by
  refine (open_cr H.h h256 hn ho hs).mono ?_
  rintro v st ⟨q, k⟩
  cases hr : openR s o sum with
  | error e => rw [hr] at q; obtain ⟨rfl, q2⟩ := q; exact ⟨_, _, rfl, .inl ⟨q2, rfl⟩, k⟩
  | ok t => rw [hr] at q; obtain ⟨rfl, q2, q3⟩ := q; exact ⟨_, _, rfl, .inr ⟨rfl, t, rfl, rfl, q2, q3⟩, k⟩
theorem with_cr {h : Heap} {c : Nat} {unit : Int} {s : ByteArray} (hs : s.size ≤ 1000) :
    CR Tryz.prog ov 12 [iv unit, .string s] ⟨h, c⟩ (fun v st => (if 24 ≤ unit ∧ unit ≤ 100000 then ∃ r, WithR unit.toNat (bitsL s.data.toList) r ∧ (match r with
      | .ok (p, _) => v = .tuple #[.string (txt p.2), nv 0]
      | .error e => v = .tuple #[nostr, nv e]) else v = .tuple #[nostr, nv 1]) ∧ Keep [] h c st) := by
  have hN := fun c' => unNew_cr H.h (h := h) (c := c') (unit := unit)
  by_cases hu : 24 ≤ unit ∧ unit ≤ 100000
  · simp only [if_pos hu] at hN ⊢
    have hal : (bitsL s.data.toList).length ≤ 8000 := by rw [bitsL_length]; have h1 : s.data.toList.length = s.size := Array.length_toList; rw [h1]; omega
    generalize hall : bitsL s.data.toList = all at *
    refine e_2 Tryz.func12 rfl (H.h _ (by decide)) Tryz.ntmps12 (by decide) ?_
    intro env U
    refine sg 2 J (qA U J (qA U J (nK (sg 7 J (qM U J (qC U J (CR.mono (hN _) ?_)))))))
    rintro v ⟨hh1, cc1⟩ ⟨⟨b, rfl, hU, hb1, hb2⟩, hK⟩
    have hcc1 := hK.1
    dsimp only at hcc1 hU hb2
    refine qM U J (qE U J J (qE U J J (qA U J (qA U J (nK (rS (sg 2 J (qM U J (qB U J J J (nK (rF U J dA ?_)))))))))))
    refine rK (kN (sg 3 J (qM U J (qC U J (CR.mono (newReader_cr H.h oA) ?_)))))
    rintro v ⟨hh2, cc2⟩ ⟨r, rfl, hr1, hr2, hR, hK2⟩
    have hcc2 := hK2.1
    dsimp only at hcc2 hR hr2
    rw [hall] at hR
    refine qA U J (nK (sg 1 J (qZ i104 z104 J (nK (rB ?_)))))
    refine rL (fun m env' s' => ∃ u out W ba n, m = 1000002 * (all.length - n) + u.pend ∧ n ≤ all.length ∧ Hd 59 [(6, ptr b), (8, ptr r), (9, ptr cc2)] env' ∧ UnR u b W s'.heap.get ∧ BitR all 0 n (s'.heap.get r) ∧ BuR out cc2 ba s'.heap.get ∧ (∀ rr, Runs withStep withFin all (u, out) n rr → WithR unit.toNat all rr) ∧ out.length + (if u.due = 2 then 225900000 else 0) ≤ 225900000 * n ∧ (∀ z ∈ W, c ≤ z ∧ z < s'.ctr) ∧ (∀ z ∈ own ba, c ≤ z ∧ z < s'.ctr ∧ z ∉ W) ∧ cc2 < s'.ctr ∧ Keep [] h c s') (1000002 * all.length) ?_ ?_
    · refine ⟨Un.new unit.toNat, [], [b], none, 0, by simp [Un.pend, Un.new], Nat.zero_le _, Ho U ⟨rfl, rfl, rfl, trivial⟩, hU.move ?_, hR.move ?_, ⟨by simp, .pointer none, 0, .inl rfl, (T.get_set _ _ _ _).trans (if_pos rfl), SlR.nil⟩, fun rr q => q, by simp [Un.new], fun z hz => ?_, by simp [own], by dsimp only; omega, ((((hK.base (c0 := c) oA).up (c3 := cc1 + 2 + 3) oA).call hK2 (by simp)).set (.inl oA)).up oA⟩
      · intro z hz; simp only [List.mem_singleton] at hz; subst hz; dsimp only; rw [T.get_set, if_neg (by omega)]; exact hK2.2 _ (by omega) (by simp)
      · dsimp only; rw [T.get_set, if_neg (by omega)]
      · simp only [List.mem_singleton] at hz; subst hz; dsimp only; omega
    rintro m _ ⟨h2, c2⟩ ⟨u, out, W, ba, n, rfl, hn, ⟨env, U, rfl⟩, hU2, hR2, hB2, hRuns, hbd, hW, hba, hc2, hKK⟩
    dsimp only at hU2 hR2 hB2 hW hba hc2
    have hpl := hU2.pend_le
    have hrW := hU2.r_ne hR2
    obtain ⟨hgood, bvv, bW, hbu, hbB, hWW⟩ := id hU2
    obtain ⟨hB256, bp, bcp, hbp, hbb, hbS⟩ := id hB2
    have hnbW : cc2 ∉ W := by rw [hWW]; simp only [List.mem_cons, not_or]; exact ⟨blk_ne hbb hbu (by dsimp only; decide), kind_ne hbB.kind hbb (by dsimp only; decide)⟩
    have hrn : r ≠ cc2 := hR2.ne hbb (by dsimp only; decide)
    have hrba := hR2.own hbS (by decide)
    have hnba : cc2 ∉ own ba := own_ne hbS hbb (by dsimp only; decide)
    have hbW2 : b ∈ W := by rw [hWW]; simp
    have hbc2 := hW b hbW2
    have hrc2 : r < c2 := by omega
    have hln : (all.drop n).length = all.length - n := List.length_drop
    have hdue := hgood.2.2.2.2.2.2.1
    refine rB (rS (sg 7 J (qM U J (qC U J (CR.mono (unMayEnd_cr H.h hU2) ?_)))))
    rintro v ⟨hh3, cc3⟩ ⟨rfl, rfl, hk⟩
    try dsimp only at hk
    refine qM U J ?_
    refine q_case U (rfl : lk _ _ 26 = _) (fun hme => ?_) (fun hme => ?_)
    · have hme_ := hme
      try simp only [dz] at hme_
      refine qG U J J J hme (qM U J (qG U J J J hme (qC U J (CR.mono (left_cr H.h hR2 oA) ?_))))
      rintro v ⟨hh4, cc4⟩ ⟨rfl, rfl, hk⟩
      try dsimp only at hk
      refine qG U J J J hme (qB U J J J (qQ U J J J (if_pos hme) (nK ?_)))
      refine rC U rfl (fun hz => ?_) (fun hz => ?_)
      · try simp only [dz, dy] at hz
        refine sg 3 J (qC U J (CR.mono (buString_cr H hB2 (by split at hbd <;> omega)) ?_))
        rintro v ⟨hh5, cc5⟩ ⟨rfl, hst⟩
        refine qA U J (qA U J (nK (rR (kR (k_bloR (kR (k_bloR (f_2 U J (.inl J) J J ?_))))))))
        have hfin : withFin (u, out) (all.drop n) = true := by simp only [withFin]; rw [show u.mayEnd = true from hme, hln]; (try simp at hz); simp; omega
        exact ⟨⟨.ok ((u, out), n), hRuns _ (.stop hfin), rfl⟩, ((hKK.up (by omega)).call hst (fun z hz => .inl (hba z hz).1)).up (by omega)⟩
      · try simp only [dz, dy] at hz
        have hfin : withFin (u, out) (all.drop n) = false := by simp only [withFin]; rw [hln]; (try simp at hz); simp; omega
        refine rK (kN (sg 8 J (qM U J (qM U J (qC U J (CR.mono ((unStep_cr H.h hU2 hR2 ⟨by omega, fun z hz => by have := hW z hz; omega⟩).mono (fun v st q => UnPost.tup q)) ?_))))))
        rintro v ⟨hhS, ccS⟩ ⟨w, e, rfl, hq⟩
        refine qM U J ?_
        obtain ⟨hcase, hKs⟩ := hq.split
        have hccS := hKs.1
        dsimp only at hccS hcase
        refine qE U J J (qE U J J (qA U J (qA U J (nK (rB (sg 3 J (qM U J (qB U J J J (qA U J (nK ?_))))))))))
        refine rC U rfl (fun h3 => ?_) (fun h3 => ?_)
        · try simp only [dz, dy] at h3
          refine sg 2 J (qA U J (qA U J (nK (rR (k_bloR (k_bloR (kR (k_bloR (f_2 U J (.inl J) J J ?_)))))))))
          rcases hcase with ⟨hres, hne⟩ | ⟨u', n', hres, he, _⟩
          · refine ⟨⟨.error 24, hRuns _ (.fail hfin ?_), rfl⟩, ?_⟩
            · simp only [withStep, hres]; rw [if_pos (by omega)]
            · exact ((hKK.up (by omega)).call hKs (fun z hz => by simp only [List.mem_cons] at hz; left; rcases hz with q | q; (subst q; omega); (exact (hW z q).1))).up (by omega)
          · omega
        · try simp only [dz, dy] at h3
          refine sg 3 J (qM U J (qB U J J J (qA U J (nK ?_))))
          refine rC U rfl (fun h0 => ?_) (fun h0 => ?_)
          · try simp only [dz, dy] at h0
            refine sg 3 J (qM U J (qA U J (qA U J (nK (rR (k_bloR (k_bloR (kR (k_bloR (f_2 U J (.inl J) J J ?_))))))))))
            rcases hcase with ⟨hres, hne⟩ | ⟨u', n', hres, he, _⟩
            · refine ⟨⟨.error e, hRuns _ (.fail hfin ?_), rfl⟩, ?_⟩
              · simp only [withStep, hres]; rw [if_neg (by omega)]
              · exact ((hKK.up (by omega)).call hKs (fun z hz => by simp only [List.mem_cons] at hz; left; rcases hz with q | q; (subst q; omega); (exact (hW z q).1))).up (by omega)
            · simp at h0; omega
          · try simp only [dz, dy] at h0
            rcases hcase with ⟨hres, hne⟩ | ⟨u', n', hres, he, hR3, W', hU3, hW3⟩
            · simp at h0; omega
            have hsp := Un.step_pend hres hdue
            have hsd := Un.step_due hres
            have hpl3 := hU3.pend_le
            have hbm : ∀ z, z = cc2 ∨ z ∈ own ba → hhS.get z = h2.get z := fun z hz => hKs.2 z (by rcases hz with q | q; omega; have := hba z q; omega) (by simp only [List.mem_cons, not_or]; rcases hz with q | q; (subst q; exact ⟨hrn.symm, hnbW⟩); (exact ⟨fun e => hrba (e ▸ q), (hba z q).2.2⟩))
            have hB3 := hB2.move (g' := hhS.get) hbm
            have hWc : ∀ z ∈ W', c ≤ z ∧ z < ccS := fun z hz => by rcases hW3 z hz with q | q; (have := hW z q; omega); omega
            have hbaW : ∀ z ∈ own ba, z ∉ W' := fun z hz hm => by rcases hW3 z hm with q | q; (exact (hba z hz).2.2 q); (have := hba z hz; omega)
            rw [hln] at hsp
            refine sg 3 J (qM U J (qB U J J J (qA U J (nK ?_))))
            refine rC U rfl (fun hw => ?_) (fun hw => ?_)
            · try simp only [dz, dy] at hw
              have hw1 : w = 1 := by omega
              subst hw1
              have hd2 := hsd.2 rfl
              rw [if_pos hd2.1] at hbd
              have hg3 := hU3.1.2.2.2.2.2.2.2
              refine sg 8 J (qM U J (qC U J (CR.mono (unGot_cr H.h hU3 (by have := hWc b (by obtain ⟨_, _, _, _, _, q⟩ := hU3; rw [q]; simp); omega)) ?_)))
              rintro v ⟨hhG, ccG⟩ ⟨rfl, hKg⟩
              refine qC U J (CR.mono (open_cr2 H hg3.1 hg3.2.1 (hsp.2.2 J) hg3.2.2) ?_)
              rintro v ⟨hhO, ccO⟩ ⟨T, e5, rfl, ho5, hKo⟩
              refine qM U J ?_
              have hccG := hKg.1
              have hccO := hKo.1
              dsimp only at hccG hccO
              refine qE U J J (qE U J J (qA U J (qA U J (nK (rS (sg 2 J (qM U J (qB U J J J (nK ?_)))))))))
              refine rC U rfl (fun h5 => ?_) (fun h5 => ?_)
              · try simp only [dz, dy] at h5
                refine sg 3 J (qM U J (qA U J (qA U J (nK (rR (kR (k_bloR (k_bloR (kR (k_bloR (f_2 U J (.inl J) J J ?_)))))))))))
                rcases ho5 with ⟨hne5, hr5⟩ | ⟨he5, _⟩
                · refine ⟨⟨.error e5, hRuns _ (.fail hfin ?_), ?_⟩, ?_⟩
                  · simp only [withStep, hres, if_true, hr5]
                  · rfl
                  · exact (((((hKK.up (by omega)).call hKs (fun z hz => by simp only [List.mem_cons] at hz; left; rcases hz with q | q; (subst q; omega); (exact (hW z q).1))).up (c3 := ccS + 3 + 3 + 3 + 8) (by omega)).call hKg (by simp)).call hKo (by simp)).up (by omega)
                · simp at h5; omega
              · try simp only [dz, dy] at h5
                rcases ho5 with ⟨hne5, _⟩ | ⟨he5, t, hr5, rfl, ht256, htl⟩
                · simp at h5; omega
                have hkeep2 : ∀ z, z < ccS → hhO.get z = hhS.get z := fun z hz => (hKo.2 z (by omega) (by simp)).trans (hKg.2 z (by omega) (by simp))
                refine rK (kN (rg 2 J (qM U J (qC U J (CR.mono (buWrite_cr H (hB3.move (g' := hhO.get) (fun z hz => hkeep2 z (by rcases hz with q | q; omega; have := hba z q; omega))) ⟨by omega, fun z hz => by have := hba z hz; omega⟩ ht256 oA oA) ?_)))))
                rintro v ⟨hhB, ccB⟩ ⟨ba', hB4, hba', hKb⟩
                refine rN (kO (kO (kN ?_)))
                have hccB := hKb.1
                dsimp only at hccB
                have hn2 : cc2 ∉ W' := fun m => by rcases hW3 _ m with q | q; (exact hnbW q); omega
                have hkb : ∀ z, z < ccS → z ≠ cc2 → z ∉ own ba → hhB.get z = hhS.get z := fun z h1 h2 h3 => (hKb.2 z (by omega) (by simp [h2, h3])).trans (hkeep2 z h1)
                refine ⟨_, ?_, u', out ++ t, W', ba', n + n', rfl, by omega, Ho U ⟨rfl, rfl, rfl, trivial⟩, hU3.move (fun z hz => hkb z (hWc z hz).2 (fun e => hn2 (e ▸ hz)) (fun m => hbaW z m hz)), hR3.move (hkb r oA hrn hrba), hB4, fun rr q => hRuns rr (.more hfin ?_ q), ?_, fun z hz => by have := hWc z hz; dsimp only; omega, fun z hz => ?_, by dsimp only; omega, ?_⟩
                · rcases Nat.eq_zero_or_pos n' with q | q; (have := hsp.2.1 q; subst q; omega); omega
                · simp only [withStep, hres, if_true, hr5]
                · rw [if_neg (by omega), List.length_append]; omega
                · have h1 := hba' z hz; refine ⟨by omega, by dsimp only at *; omega, fun m => ?_⟩; have := hWc z m; omega
                · have k1 := ((((hKK.up (by omega)).call hKs (fun z hz => by simp only [List.mem_cons] at hz; left; rcases hz with q | q; (subst q; omega); (exact (hW z q).1))).up (c3 := ccS + 3 + 3 + 3 + 8) (by omega)).call hKg (by simp)).call hKo (by simp)
                  exact ((k1.up (by omega)).call hKb (fun z hz => by simp only [List.mem_cons] at hz; left; rcases hz with q | q; (subst q; omega); (exact (hba z q).1))).up (by omega)
            · try simp only [dz, dy] at hw
              refine rK (kO (kO (kN ?_)))
              refine ⟨_, ?_, u', out, W', ba, n + n', rfl, by omega, Ho U ⟨rfl, rfl, rfl, trivial⟩, hU3, hR3, hB3, fun rr q => hRuns rr (.more hfin ?_ q), ?_, fun z hz => by have := hWc z hz; dsimp only; omega, fun z hz => by have := hba z hz; exact ⟨this.1, by dsimp only; omega, hbaW z hz⟩, by dsimp only; omega, ((hKK.up oA).call hKs (fun z hz => by simp only [List.mem_cons] at hz; left; rcases hz with q | q; (subst q; omega); (exact (hW z q).1))).up oA⟩
              · rcases Nat.eq_zero_or_pos n' with q | q; (have := hsp.2.1 q; subst q; omega); omega
              · simp only [withStep, hres]; rw [if_neg (by omega)]
              · split
                · rename_i q; rcases hsd.1 q with q2 | q2; (rw [if_pos q2] at hbd; omega); (split at hbd <;> omega)
                · split at hbd <;> omega
    · have hme_ := hme
      try simp only [dz] at hme_
      refine qS U rfl rfl rfl rfl (by rw [hme]; decide) ?_
      refine q_skipW U rfl rfl rfl rfl (by rw [hme]; decide) ?_
      refine qS U rfl rfl rfl rfl (by rw [hme]; decide) ?_
      refine qQ U rfl rfl rfl (if_neg (by rw [hme]; decide)) ?_
      refine nK (rF U J dA ?_)
      refine rK (kN (sg 8 J ?_))
      have hfin : withFin (u, out) (all.drop n) = false := by simp only [withFin]; rw [show u.mayEnd = false from hme]; rfl
      refine qM U J (qM U J (qC U J (CR.mono ((unStep_cr H.h hU2 hR2 ⟨by omega, fun z hz => by have := hW z hz; omega⟩).mono (fun v st q => UnPost.tup q)) ?_)))
      rintro v ⟨hhS, ccS⟩ ⟨w, e, rfl, hq⟩
      refine qM U J ?_
      obtain ⟨hcase, hKs⟩ := hq.split
      have hccS := hKs.1
      dsimp only at hccS hcase
      refine qE U J J (qE U J J (qA U J (qA U J (nK (rB (sg 3 J (qM U J (qB U J J J (qA U J (nK ?_))))))))))
      refine rC U rfl (fun h3 => ?_) (fun h3 => ?_)
      · try simp only [dz, dy] at h3
        refine sg 2 J (qA U J (qA U J (nK (rR (k_bloR (k_bloR (kR (k_bloR (f_2 U J (.inl J) J J ?_)))))))))
        rcases hcase with ⟨hres, hne⟩ | ⟨u', n', hres, he, _⟩
        · refine ⟨⟨.error 24, hRuns _ (.fail hfin ?_), rfl⟩, ?_⟩
          · simp only [withStep, hres]; rw [if_pos (by omega)]
          · exact ((hKK.up (by omega)).call hKs (fun z hz => by simp only [List.mem_cons] at hz; left; rcases hz with q | q; (subst q; omega); (exact (hW z q).1))).up (by omega)
        · omega
      · try simp only [dz, dy] at h3
        refine sg 3 J (qM U J (qB U J J J (qA U J (nK ?_))))
        refine rC U rfl (fun h0 => ?_) (fun h0 => ?_)
        · try simp only [dz, dy] at h0
          refine sg 3 J (qM U J (qA U J (qA U J (nK (rR (k_bloR (k_bloR (kR (k_bloR (f_2 U J (.inl J) J J ?_))))))))))
          rcases hcase with ⟨hres, hne⟩ | ⟨u', n', hres, he, _⟩
          · refine ⟨⟨.error e, hRuns _ (.fail hfin ?_), rfl⟩, ?_⟩
            · simp only [withStep, hres]; rw [if_neg (by omega)]
            · exact ((hKK.up (by omega)).call hKs (fun z hz => by simp only [List.mem_cons] at hz; left; rcases hz with q | q; (subst q; omega); (exact (hW z q).1))).up (by omega)
          · simp at h0; omega
        · try simp only [dz, dy] at h0
          rcases hcase with ⟨hres, hne⟩ | ⟨u', n', hres, he, hR3, W', hU3, hW3⟩
          · simp at h0; omega
          have hsp := Un.step_pend hres hdue
          have hsd := Un.step_due hres
          have hpl3 := hU3.pend_le
          have hbm : ∀ z, z = cc2 ∨ z ∈ own ba → hhS.get z = h2.get z := fun z hz => hKs.2 z (by rcases hz with q | q; omega; have := hba z q; omega) (by simp only [List.mem_cons, not_or]; rcases hz with q | q; (subst q; exact ⟨hrn.symm, hnbW⟩); (exact ⟨fun e => hrba (e ▸ q), (hba z q).2.2⟩))
          have hB3 := hB2.move (g' := hhS.get) hbm
          have hWc : ∀ z ∈ W', c ≤ z ∧ z < ccS := fun z hz => by rcases hW3 z hz with q | q; (have := hW z q; omega); omega
          have hbaW : ∀ z ∈ own ba, z ∉ W' := fun z hz hm => by rcases hW3 z hm with q | q; (exact (hba z hz).2.2 q); (have := hba z hz; omega)
          rw [hln] at hsp
          refine sg 3 J (qM U J (qB U J J J (qA U J (nK ?_))))
          refine rC U rfl (fun hw => ?_) (fun hw => ?_)
          · try simp only [dz, dy] at hw
            have hw1 : w = 1 := by omega
            subst hw1
            have hd2 := hsd.2 rfl
            rw [if_pos hd2.1] at hbd
            have hg3 := hU3.1.2.2.2.2.2.2.2
            refine sg 8 J (qM U J (qC U J (CR.mono (unGot_cr H.h hU3 (by have := hWc b (by obtain ⟨_, _, _, _, _, q⟩ := hU3; rw [q]; simp); omega)) ?_)))
            rintro v ⟨hhG, ccG⟩ ⟨rfl, hKg⟩
            refine qC U J (CR.mono (open_cr2 H hg3.1 hg3.2.1 (hsp.2.2 J) hg3.2.2) ?_)
            rintro v ⟨hhO, ccO⟩ ⟨T, e5, rfl, ho5, hKo⟩
            refine qM U J ?_
            have hccG := hKg.1
            have hccO := hKo.1
            dsimp only at hccG hccO
            refine qE U J J (qE U J J (qA U J (qA U J (nK (rS (sg 2 J (qM U J (qB U J J J (nK ?_)))))))))
            refine rC U rfl (fun h5 => ?_) (fun h5 => ?_)
            · try simp only [dz, dy] at h5
              refine sg 3 J (qM U J (qA U J (qA U J (nK (rR (kR (k_bloR (k_bloR (kR (k_bloR (f_2 U J (.inl J) J J ?_)))))))))))
              rcases ho5 with ⟨hne5, hr5⟩ | ⟨he5, _⟩
              · refine ⟨⟨.error e5, hRuns _ (.fail hfin ?_), ?_⟩, ?_⟩
                · simp only [withStep, hres, if_true, hr5]
                · rfl
                · exact (((((hKK.up (by omega)).call hKs (fun z hz => by simp only [List.mem_cons] at hz; left; rcases hz with q | q; (subst q; omega); (exact (hW z q).1))).up (c3 := ccS + 3 + 3 + 3 + 8) (by omega)).call hKg (by simp)).call hKo (by simp)).up (by omega)
              · simp at h5; omega
            · try simp only [dz, dy] at h5
              rcases ho5 with ⟨hne5, _⟩ | ⟨he5, t, hr5, rfl, ht256, htl⟩
              · simp at h5; omega
              have hkeep2 : ∀ z, z < ccS → hhO.get z = hhS.get z := fun z hz => (hKo.2 z (by omega) (by simp)).trans (hKg.2 z (by omega) (by simp))
              refine rK (kN (rg 2 J (qM U J (qC U J (CR.mono (buWrite_cr H (hB3.move (g' := hhO.get) (fun z hz => hkeep2 z (by rcases hz with q | q; omega; have := hba z q; omega))) ⟨by omega, fun z hz => by have := hba z hz; omega⟩ ht256 oA oA) ?_)))))
              rintro v ⟨hhB, ccB⟩ ⟨ba', hB4, hba', hKb⟩
              refine rN (kO (kO (kN ?_)))
              have hccB := hKb.1
              dsimp only at hccB
              have hn2 : cc2 ∉ W' := fun m => by rcases hW3 _ m with q | q; (exact hnbW q); omega
              have hkb : ∀ z, z < ccS → z ≠ cc2 → z ∉ own ba → hhB.get z = hhS.get z := fun z h1 h2 h3 => (hKb.2 z (by omega) (by simp [h2, h3])).trans (hkeep2 z h1)
              refine ⟨_, ?_, u', out ++ t, W', ba', n + n', rfl, by omega, Ho U ⟨rfl, rfl, rfl, trivial⟩, hU3.move (fun z hz => hkb z (hWc z hz).2 (fun e => hn2 (e ▸ hz)) (fun m => hbaW z m hz)), hR3.move (hkb r oA hrn hrba), hB4, fun rr q => hRuns rr (.more hfin ?_ q), ?_, fun z hz => by have := hWc z hz; dsimp only; omega, fun z hz => ?_, by dsimp only; omega, ?_⟩
              · rcases Nat.eq_zero_or_pos n' with q | q; (have := hsp.2.1 q; subst q; omega); omega
              · simp only [withStep, hres, if_true, hr5]
              · rw [if_neg (by omega), List.length_append]; omega
              · have h1 := hba' z hz; refine ⟨by omega, by dsimp only at *; omega, fun m => ?_⟩; have := hWc z m; omega
              · have k1 := ((((hKK.up (by omega)).call hKs (fun z hz => by simp only [List.mem_cons] at hz; left; rcases hz with q | q; (subst q; omega); (exact (hW z q).1))).up (c3 := ccS + 3 + 3 + 3 + 8) (by omega)).call hKg (by simp)).call hKo (by simp)
                exact ((k1.up (by omega)).call hKb (fun z hz => by simp only [List.mem_cons] at hz; left; rcases hz with q | q; (subst q; omega); (exact (hba z q).1))).up (by omega)
          · try simp only [dz, dy] at hw
            refine rK (kO (kO (kN ?_)))
            refine ⟨_, ?_, u', out, W', ba, n + n', rfl, by omega, Ho U ⟨rfl, rfl, rfl, trivial⟩, hU3, hR3, hB3, fun rr q => hRuns rr (.more hfin ?_ q), ?_, fun z hz => by have := hWc z hz; dsimp only; omega, fun z hz => by have := hba z hz; exact ⟨this.1, by dsimp only; omega, hbaW z hz⟩, by dsimp only; omega, ((hKK.up oA).call hKs (fun z hz => by simp only [List.mem_cons] at hz; left; rcases hz with q | q; (subst q; omega); (exact (hW z q).1))).up oA⟩
            · rcases Nat.eq_zero_or_pos n' with q | q; (have := hsp.2.1 q; subst q; omega); omega
            · simp only [withStep, hres]; rw [if_neg (by omega)]
            · split
              · rename_i q; rcases hsd.1 q with q2 | q2; (rw [if_pos q2] at hbd; omega); (split at hbd <;> omega)
              · split at hbd <;> omega
  · simp only [if_neg hu] at hN ⊢
    refine e_2 Tryz.func12 rfl (H.h _ (by decide)) Tryz.ntmps12 (by decide) ?_
    intro env U
    refine sg 2 J (qA U J (qA U J (nK (sg 7 J (qM U J (qC U J (CR.mono (hN _) ?_)))))))
    rintro v ⟨hh1, cc1⟩ ⟨rfl, hK⟩
    refine qM U J (qE U J J (qE U J J (qA U J (qA U J (nK (rS (sg 2 J (qM U J (qB U J J J (nK (rT U J dA ?_)))))))))))
    refine sg 3 J (qM U J (qA U J (qA U J (nK (rR (kR (f_2 U J (.inl J) J J ?_)))))))
    exact ⟨rfl, (hK.base (by omega)).up (by have := hK.1; dsimp only at *; omega)⟩
end
theorem txt_app (a b : List Nat) : txt (a ++ b) = txt a ++ txt b := by
  apply ByteArray.ext; simp [txt, ByteArray.data_append]
theorem addS {P : Program} {t : TypeId} (a b : List Nat) (h : a.length + b.length ≤ 9223372036854775807) : evBin P .add t (.string (txt a)) (.string (txt b)) = some (.string (txt (a ++ b))) := by
  simp only [evBin, txt_size, if_pos h, txt_app]
theorem txt_extract (l : List Nat) (a b : Nat) : (txt l).extract a b = txt ((l.drop a).take (b - a)) := by
  apply ByteArray.ext; simp [txt, ByteArray.data_extract, List.extract_eq_take_drop]
def zb (b : Bool) : Nat := if b then 49 else 48
def zl (l : List Bool) : List Nat := l.map zb
abbrev zs (l : List Bool) : ByteArray := txt (zl l)
theorem zl_app (a b : List Bool) : zl (a ++ b) = zl a ++ zl b := List.map_append
theorem zl_len (a : List Bool) : (zl a).length = a.length := List.length_map _
theorem zl_get {l : List Bool} {i : Nat} {t : Bool} (h : l[i]? = some t) : (zl l)[i]? = some (zb t) := by rw [zl, List.getElem?_map, h]; rfl
theorem zb_nat (t : Bool) : (UInt8.ofNat (zb t)).toNat = 48 + t.toNat := by cases t <;> rfl
def bitsN : Nat → Nat → List Bool
  | 0, _ => []
  | n + 1, v => bitsN n (v / 2) ++ [v % 2 == 1]
theorem bitsN_len : ∀ (n v : Nat), (bitsN n v).length = n
  | 0, _ => rfl
  | n + 1, v => by rw [bitsN, List.length_append, bitsN_len n]; rfl
theorem bitsN_cons : ∀ (n v : Nat), bitsN (n + 1) v = (v / 2 ^ n % 2 == 1) :: bitsN n v
  | 0, v => by simp [bitsN]
  | n + 1, v => by
    rw [bitsN, bitsN_cons n (v / 2), Nat.div_div_eq_div_mul, bitsN, Nat.pow_succ, Nat.mul_comm (2 ^ n) 2]; rfl
theorem byteBits_eq (b : UInt8) : byteBits b = bitsN 8 b.toNat := by
  have h : ∀ m : Fin 256, [m.val.testBit 7, m.val.testBit 6, m.val.testBit 5, m.val.testBit 4, m.val.testBit 3, m.val.testBit 2, m.val.testBit 1, m.val.testBit 0] = bitsN 8 m.val := by decide +kernel
  exact h ⟨b.toNat, b.toNat_lt⟩
section
variable {P : Program} {ov : OvT} {ops : Array Oper} {c0 d n : Nat} {ty : TypeId} {pos : String} {after : Array Edge} {l : List Oper} {i : Nat} {env : Env} {w : List (Nat × Value)} {h : Heap} {c : Nat} {sn : List (Nat × Heap)} {md : Heap} {Q : RS → Prop}
theorem qT {t : TypeId} {x : Operand} {lo hi : Option Operand} {s : List Nat} (a b : Nat) (U : env.length = n) (hx : lkO n w x = some (.string (txt s))) (ht : P.underlying t = some .string) (hb : lkB n w hi (s.length : Nat) = some (b : Int)) (ha : lkB n w lo (0 : Nat) = some (a : Int)) (hr : a ≤ b ∧ b ≤ s.length)
    (k : RO P ov ops c0 l (i + 1) ⟨E env ((d, .string (txt ((s.drop a).take (b - a)))) :: w), ⟨h, c⟩, sn, md⟩ Q) :
    RO P ov ops c0 (⟨some d, .slice t x lo hi none, ty, pos, after, none⟩ :: l) i ⟨E env w, ⟨h, c⟩, sn, md⟩ Q := by
  refine q_sliceS U hx ht (by rw [txt_size]; exact hb) ha ⟨by omega, by omega, by rw [txt_size]; omega⟩ ?_
  have e : (txt s).extract (a : Int).toNat (b : Int).toNat = txt ((s.drop a).take (b - a)) := txt_extract s a b
  rw [e]; exact k
end
section
variable {ov : OvT} (H : OvH ov)
include H
theorem rUnit_cr {h : Heap} {c : Nat} {u : Int} :
    CR Tryz.prog ov 13 [iv u] ⟨h, c⟩ (fun v st => v = .bool (24 ≤ u && u ≤ 100000) ∧ Same h c st) := by
  refine e_1 Tryz.func13 rfl (H _ (by decide)) Tryz.ntmps13 (by decide) ?_
  intro env U
  refine sg 1 J (qA U J (nK (sg 7 J (qM U J (qB U J J J (qM U J ?_))))))
  refine q_case U (rfl : lk _ _ 5 = _) (fun hg => ?_) (fun hg => ?_)
  · have hg_ := hg
    try simp only [dz] at hg_
    refine qG U J J J hg (qM U J (qG U J J J hg (qB U J J J (qQ U J J J (if_pos hg) (qA U J (nK (rR (f_1 U J (.inl J) J ?_))))))))
    refine ⟨?_, rfl, by simp <;> omega⟩
    have q : 24 ≤ u := by omega
    simp [q]
  · have hg_ := hg
    try simp only [dz] at hg_
    refine qS U rfl rfl rfl rfl (by rw [hg]; decide) ?_
    refine qS U rfl rfl rfl rfl (by rw [hg]; decide) ?_
    refine qQ U rfl rfl rfl (if_neg (by rw [hg]; decide)) ?_
    refine qA U J (nK (rR (f_1 U J (.inl J) J ?_)))
    refine ⟨?_, rfl, by simp <;> omega⟩
    have q : ¬ 24 ≤ u := by omega
    simp [q]
theorem rField_cr {h : Heap} {c v n : Nat} (hv : v < 4294967296) (hn : n ≤ 32) :
    CR Tryz.prog ov 110 [uv v, nv n] ⟨h, c⟩ (fun w st => w = .string (zs (bitsN n v)) ∧ Same h c st) := by
  refine e_2 Tryz.func110 rfl (H _ (by decide)) Tryz.ntmps110 (by decide) ?_
  intro env U
  refine sg 1 J (qA U J (nK (sg 1 J (qA U J (nK (rS (sg 2 J (qM U J (qM U J (nK (rB ?_)))))))))))
  refine rL (fun m env' s' => ∃ j, m = n - j ∧ j ≤ n ∧ Hd 21 [(0, uv (v / 2 ^ j)), (6, nv n), (7, nv j), (5, .string (zs (bitsN j v)))] env' ∧ s'.heap = h ∧ c ≤ s'.ctr) n ?_ ?_
  · exact ⟨0, rfl, Nat.zero_le _, Ho U ⟨by rw [Nat.pow_zero, Nat.div_one]; rfl, rfl, rfl, rfl, trivial⟩, rfl, by dsimp only; omega⟩
  rintro m _ ⟨h2, c2⟩ ⟨j, rfl, hj, ⟨env, U, rfl⟩, he, hc2⟩
  dsimp only at he hc2
  subst he
  refine sg 1 J (qB U J J J (nK (rS ?_)))
  refine rC U rfl (fun hjn => ?_) (fun hjn => ?_)
  · try simp only [dz, dy] at hjn
    obtain ⟨y, hy⟩ : ∃ y, y = v / 2 ^ j := ⟨_, rfl⟩
    have hylt : y < 4294967296 := by rw [hy]; exact Nat.lt_of_le_of_lt (Nat.div_le_self _ _) hv
    rw [← hy]
    have hb : bitsN (j + 1) v = (y % 2 == 1) :: bitsN j v := by rw [bitsN_cons, ← hy]
    have hy2 : y / 2 = v / 2 ^ (j + 1) := by rw [hy, Nat.div_div_eq_div_mul, Nat.pow_succ]
    have hzl : zl ((y % 2 == 1) :: bitsN j v) = [zb (y % 2 == 1)] ++ zl (bitsN j v) := rfl
    refine rK (kN (rS (rB (sg 9 J (qM U J (q_rem U rfl rfl ⟨by omega, by omega⟩ ?_))))))
    refine qM U J (q_rem U rfl rfl ⟨by omega, by omega⟩ ?_)
    refine qP U J J wA ?_
    refine qT (s := [48, 49]) (y % 2) (y % 2 + 1) U rfl Tryz.underlying9 rfl rfl ⟨by omega, by simp; omega⟩ ?_
    have hsl : (([48, 49] : List Nat).drop (y % 2)).take (y % 2 + 1 - y % 2) = [zb (y % 2 == 1)] := by rcases Nat.mod_two_eq_zero_or_one y with q | q <;> rw [q] <;> rfl
    simp only [hsl]
    refine qM U J (qB U rfl rfl (addS _ _ (by rw [zl_len, bitsN_len]; simp; omega)) ?_)
    refine qA U J (nK (rg 3 J (qM U J (q_quo U rfl rfl ⟨by omega, by omega⟩ wA ?_))))
    refine qA U J (rN (kO (kN (rg 2 J (qP U J J wA ?_)))))
    refine qM U J (nK ?_)
    exact ⟨n - (j + 1), by omega, j + 1, rfl, by omega, Ho U ⟨by rw [← hy2]; simp [lk, Nat.beq, Nat.blt, Nat.ble], rfl, rfl, by rw [hb]; rfl, trivial⟩, rfl, by dsimp only; omega⟩
  · try simp only [dz, dy] at hjn
    refine r_exit (kE (kE (kB (kN (sg 2 J (qM U J (qA U J (nK (rR (f_1 U J (.inl J) J ?_))))))))))
    have ej : j = n := by omega
    subst ej
    exact ⟨rfl, rfl, by dsimp only; omega⟩
theorem rNumber_cr {h : Heap} {c : Nat} {L : List Bool} (hL : L.length ≤ 32) :
    CR Tryz.prog ov 68 [.string (zs L)] ⟨h, c⟩ (fun w st => w = uv (num L) ∧ Same h c st) := by
  have hsz : (zs L).size = L.length := by rw [txt_size, zl_len]
  refine e_1 Tryz.func68 rfl (H _ (by decide)) Tryz.ntmps68 (by decide) ?_
  intro env U
  refine sg 1 J (qA U J (nK (sg 1 J (qA U J (nK (rS (sg 1 J (qA U J (nK (rB ?_))))))))))
  refine rL (fun m env' s' => ∃ j, m = L.length - j ∧ j ≤ L.length ∧ Hd 20 [(0, .string (zs L)), (4, nv j), (3, uv (num (L.take j)))] env' ∧ s'.heap = h ∧ c ≤ s'.ctr) L.length ?_ ?_
  · exact ⟨0, rfl, Nat.zero_le _, Ho U ⟨rfl, rfl, rfl, trivial⟩, rfl, by dsimp only; omega⟩
  rintro m _ ⟨h2, c2⟩ ⟨j, rfl, hj, ⟨env, U, rfl⟩, he, hc2⟩
  dsimp only at he hc2
  subst he
  refine rS (sg 4 J (qM U J (qM U J (qK U J Tryz.underlying9 ?_))))
  rw [hsz]
  refine qB U J J J (nK ?_)
  refine rC U rfl (fun hjn => ?_) (fun hjn => ?_)
  · try simp only [dz, dy] at hjn
    obtain ⟨t, ht⟩ : ∃ t, L[j]? = some t := ⟨_, List.getElem?_eq_getElem (by omega)⟩
    have htk : num (L.take (j + 1)) = 2 * num (L.take j) + t.toNat := by rw [List.take_add_one, ht]; exact num_snoc _ _
    have hlt := num_lt (L.take (j + 1)); rw [List.length_take, Nat.min_eq_left (by omega)] at hlt
    have hp : 2 ^ (j + 1) ≤ 2 ^ 32 := Nat.pow_le_pow_right (by omega) (by omega)
    have ht1 : t.toNat ≤ 1 := by cases t <;> decide
    refine rK (kN (rS (rB (rg 9 J (qM U J (q_mul U J J wA ?_))))))
    refine qM U J (qM U J (qJ U J J Tryz.underlying9 oA (txt_get (zl_get ht)) ?_))
    simp only [zb_nat]
    refine q_sub U rfl rfl (m := ((t.toNat : Nat) : Int)) (by rw [wrapU8 oA oA]; omega) ?_
    refine qH U J Tryz.underlying5 Tryz.underlying38 wA ?_
    refine qP U rfl rfl (m := ((num (L.take (j + 1)) : Nat) : Int)) (by rw [wrapU32 oA oA]; omega) ?_
    refine qA U J (rN (kO (kN (rg 3 J (qM U J (qP U J J wA ?_))))))
    refine qA U J (nK ?_)
    exact ⟨L.length - (j + 1), by omega, j + 1, rfl, by omega, Ho U ⟨rfl, rfl, rfl, trivial⟩, rfl, by dsimp only; omega⟩
  · try simp only [dz, dy] at hjn
    refine r_exit (kE (kE (kB (kN (sg 2 J (qM U J (qA U J (nK (rR (f_1 U J (.inl J) J ?_))))))))))
    have ej : j = L.length := by omega
    subst ej
    rw [List.take_length]
    exact ⟨rfl, rfl, by dsimp only; omega⟩
theorem rBits_cr {h : Heap} {c : Nat} {s : ByteArray} (hs : s.size ≤ 1000000) :
    CR Tryz.prog ov 66 [.string s] ⟨h, c⟩ (fun w st => w = .string (zs (bitsL s.data.toList)) ∧ Same h c st) := by
  have hsd : s.data.toList.length = s.size := Array.length_toList
  refine e_1 Tryz.func66 rfl (H _ (by decide)) Tryz.ntmps66 (by decide) ?_
  intro env U
  refine sg 1 J (qA U J (nK (sg 1 J (qA U J (nK (rS (sg 1 J (qA U J (nK (rB ?_))))))))))
  refine rL (fun m env' s' => ∃ j, m = s.size - j ∧ j ≤ s.size ∧ Hd 19 [(0, .string s), (4, nv j), (3, .string (zs (bitsL (s.data.toList.take j))))] env' ∧ s'.heap = h ∧ c ≤ s'.ctr) s.size ?_ ?_
  · exact ⟨0, rfl, Nat.zero_le _, Ho U ⟨rfl, rfl, rfl, trivial⟩, rfl, by dsimp only; omega⟩
  rintro m _ ⟨h2, c2⟩ ⟨j, rfl, hj, ⟨env, U, rfl⟩, he, hc2⟩
  dsimp only at he hc2
  subst he
  refine rS (sg 4 J (qM U J (qM U J (qK U J Tryz.underlying9 (qB U J J J (nK ?_))))))
  refine rC U rfl (fun hjn => ?_) (fun hjn => ?_)
  · try simp only [dz, dy] at hjn
    obtain ⟨x, hx⟩ : ∃ x, s.data.toList[j]? = some x := ⟨_, List.getElem?_eq_getElem (by omega)⟩
    have hx' : s[((j : Nat) : Int).toNat]? = some x := by rw [Array.getElem?_toList] at hx; rw [← hx]; rfl
    have hxl := x.toNat_lt
    have htk : bitsL (s.data.toList.take (j + 1)) = bitsL (s.data.toList.take j) ++ bitsN 8 x.toNat := by rw [List.take_add_one, hx, ← byteBits_eq]; simp [bitsL]
    refine rK (kN (rS (rB (rg 8 J (qM U J (qM U J (qM U J (qJ U J J Tryz.underlying9 oA hx' ?_))))))))
    refine qH U J Tryz.underlying5 Tryz.underlying38 wA ?_
    refine qC U J (CR.mono (rField_cr H (n := 8) oA oA) ?_)
    rintro v ⟨hh1, cc1⟩ ⟨rfl, rfl, hk⟩
    try dsimp only at hk
    refine qB U rfl rfl (addS _ _ (by rw [zl_len, zl_len, bitsN_len, bitsL_length, List.length_take]; omega)) ?_
    refine qA U J (rN (kO (kN (rg 3 J (qM U J (qP U J J wA ?_))))))
    refine qA U J (nK ?_)
    exact ⟨s.size - (j + 1), by omega, j + 1, rfl, by omega, Ho U ⟨rfl, rfl, by rw [htk]; exact congrArg (fun l => some (Value.string (txt l))) (zl_app _ _).symm, trivial⟩, rfl, by dsimp only at *; omega⟩
  · try simp only [dz, dy] at hjn
    refine r_exit (kE (kE (kB (kN (sg 2 J (qM U J (qA U J (nK (rR (f_1 U J (.inl J) J ?_))))))))))
    have ej : j = s.size := by omega
    subst ej
    rw [List.take_of_length_le (by omega)]
    exact ⟨rfl, rfl, by dsimp only; omega⟩
def refRow (x : Nat) : Nat := if 2147483648 ≤ x then ((x - 2147483648) * 2) ^^^ 79764919 else x * 2
def refB : Nat → Nat → Nat
  | 0, x => x
  | n + 1, x => refB n (refRow x)
omit H in
theorem refRow_eq {x : Nat} (h : x < 4294967296) : refRow x = crcRow x := by
  simp only [refRow, crcRow]
  split
  · have h1 : x / 2147483648 = 1 := by omega
    have h2 : x * 2 % 4294967296 = (x - 2147483648) * 2 := by omega
    rw [h1, h2, Nat.one_mul]
  · have h1 : x / 2147483648 = 0 := by omega
    have h2 : x * 2 % 4294967296 = x * 2 := by omega
    rw [h1, h2, Nat.zero_mul, Nat.xor_zero]
omit H in
theorem refB_eq : ∀ (n : Nat) {x : Nat}, x < 4294967296 → refB n x = crcB n x
  | 0, _, _ => rfl
  | n + 1, x, h => by simp only [refB, crcB]; rw [refRow_eq h]; exact refB_eq n (crcRow_lt h)
omit H in
theorem crcB_snoc (n x : Nat) : crcB (n + 1) x = crcRow (crcB n x) := by rw [crcB_add]; rfl
theorem rCrcBits_cr {h : Heap} {c x : Nat} (hx : x < 4294967296) :
    CR Tryz.prog ov 158 [uv x] ⟨h, c⟩ (fun w st => w = uv (crcB 8 x) ∧ Same h c st) := by
  refine e_1 Tryz.func158 rfl (H _ (by decide)) Tryz.ntmps158 (by decide) ?_
  intro env U
  refine sg 1 J (qA U J (nK (rS (sg 1 J (qM U J (nK (rB ?_)))))))
  refine rL (fun m env' s' => ∃ j, m = 8 - j ∧ j ≤ 8 ∧ Hd 15 [(0, uv (crcB j x)), (3, nv j)] env' ∧ s'.heap = h ∧ c ≤ s'.ctr) 8 ?_ ?_
  · exact ⟨0, rfl, by omega, Ho U ⟨rfl, rfl, trivial⟩, rfl, by dsimp only; omega⟩
  rintro m _ ⟨h2, c2⟩ ⟨j, rfl, hj, ⟨env, U, rfl⟩, he, hc2⟩
  dsimp only at he hc2
  subst he
  refine sg 1 J (qB U J J J (nK (rS ?_)))
  refine rC U rfl (fun hjn => ?_) (fun hjn => ?_)
  · try simp only [dz, dy] at hjn
    obtain ⟨y, hy⟩ : ∃ y, y = crcB j x := ⟨_, rfl⟩
    have hylt : y < 4294967296 := by rw [hy]; exact crcB_lt _ hx
    rw [← hy]
    have hb : crcB (j + 1) x = refRow y := by rw [crcB_snoc, ← hy, refRow_eq hylt]
    refine rK (kN (rS (rB (sg 2 J (qM U J (qB U J J J (nK ?_)))))))
    refine rC U rfl (fun hge => ?_) (fun hge => ?_)
    · try simp only [dz, dy] at hge
      refine rg 5 J (qM U J (q_sub U J J wA ?_))
      refine q_mul U rfl rfl (m := (((y - 2147483648) * 2 : Nat) : Int)) (by rw [wrapU32 oA oA]; omega) ?_
      refine qB U J J (xorU _ 79764919 oA oA) ?_
      refine qA U J (rN (kO (kN (rg 2 J (qP U J J wA ?_)))))
      refine qM U J (nK ?_)
      exact ⟨8 - (j + 1), by omega, j + 1, rfl, by omega, Ho U ⟨by rw [hb, refRow, if_pos (by omega)]; rfl, rfl, trivial⟩, rfl, by dsimp only; omega⟩
    · try simp only [dz, dy] at hge
      refine rg 3 J (qM U J (q_mul U rfl rfl (m := ((y * 2 : Nat) : Int)) (by rw [wrapU32 oA oA]; omega) ?_))
      refine qA U J (rN (kO (kN (rg 2 J (qP U J J wA ?_)))))
      refine qM U J (nK ?_)
      exact ⟨8 - (j + 1), by omega, j + 1, rfl, by omega, Ho U ⟨by rw [hb, refRow, if_neg (by omega)]; rfl, rfl, trivial⟩, rfl, by dsimp only; omega⟩
  · try simp only [dz, dy] at hjn
    refine r_exit (kE (kE (kB (kN (sg 2 J (qM U J (qA U J (nK (rR (f_1 U J (.inl J) J ?_))))))))))
    have ej : j = 8 := by omega
    subst ej
    exact ⟨rfl, rfl, by dsimp only; omega⟩
omit H in
theorem xor_mul2 (a b : Nat) : (a ^^^ b) * 2 = (a * 2) ^^^ (b * 2) := by
  have := Nat.shiftLeft_xor_distrib (a := a) (b := b) (i := 1)
  simpa [Nat.shiftLeft_eq] using this
omit H in
theorem crcRow_xor {a b : Nat} (ha : a < 4294967296) (hb : b < 4294967296) : crcRow (a ^^^ b) = crcRow a ^^^ crcRow b := by
  have e1 : (a ^^^ b) / 2147483648 = a / 2147483648 ^^^ b / 2147483648 := by
    have := Nat.shiftRight_xor_distrib (a := a) (b := b) (i := 31)
    simpa [Nat.shiftRight_eq_div_pow] using this
  have e2 : ∀ x : Nat, x * 2 % 4294967296 = (x % 2147483648) * 2 := fun x => by omega
  have e3 : (a ^^^ b) % 2147483648 = a % 2147483648 ^^^ b % 2147483648 := by
    have := Nat.xor_mod_two_pow (a := a) (b := b) (n := 31)
    simpa using this
  have e4 : (a / 2147483648 ^^^ b / 2147483648) * 79764919 = (a / 2147483648 * 79764919) ^^^ (b / 2147483648 * 79764919) := by
    rcases (by omega : a / 2147483648 = 0 ∨ a / 2147483648 = 1) with q | q <;> rcases (by omega : b / 2147483648 = 0 ∨ b / 2147483648 = 1) with q2 | q2 <;> rw [q, q2] <;> simp
  have ac : ∀ A B C D : Nat, (A ^^^ B) ^^^ (C ^^^ D) = (A ^^^ C) ^^^ (B ^^^ D) := by
    intro A B C D
    rw [Nat.xor_assoc, Nat.xor_assoc, ← Nat.xor_assoc B C D, Nat.xor_comm B C, Nat.xor_assoc C B D]
  show ((a ^^^ b) * 2 % 4294967296) ^^^ ((a ^^^ b) / 2147483648 * 79764919) = (a * 2 % 4294967296 ^^^ a / 2147483648 * 79764919) ^^^ (b * 2 % 4294967296 ^^^ b / 2147483648 * 79764919)
  rw [e2, e3, xor_mul2, e1, e4, e2 a, e2 b, ac]
omit H in
theorem crcB_xor : ∀ (n : Nat) {a b : Nat}, a < 4294967296 → b < 4294967296 → crcB n (a ^^^ b) = crcB n a ^^^ crcB n b
  | 0, _, _, _, _ => rfl
  | n + 1, a, b, ha, hb => by simp only [crcB]; rw [crcRow_xor ha hb]; exact crcB_xor n (crcRow_lt ha) (crcRow_lt hb)
omit H in
theorem crcB_low : ∀ (n : Nat) {x : Nat}, x * 2 ^ n < 4294967296 → crcB n x = x * 2 ^ n
  | 0, x, _ => by simp [crcB]
  | n + 1, x, h => by
    have h2 : x * 2 * 2 ^ n = x * 2 ^ (n + 1) := by rw [Nat.pow_succ, Nat.mul_assoc, Nat.mul_comm 2]
    have hp : 0 < 2 ^ n := Nat.two_pow_pos n
    have hx : x * 2 < 4294967296 := by
      have := Nat.le_mul_of_pos_right (x * 2) hp; omega
    have e : crcRow x = x * 2 := by
      simp only [crcRow]
      have h1 : x / 2147483648 = 0 := by omega
      rw [h1, Nat.zero_mul, Nat.xor_zero, Nat.mod_eq_of_lt hx]
    simp only [crcB, e]; rw [crcB_low n (by rw [h2]; exact h), h2]
end
theorem xor_mul24 (a b : Nat) : (a ^^^ b) * 16777216 = (a * 16777216) ^^^ (b * 16777216) := by
  have := Nat.shiftLeft_xor_distrib (a := a) (b := b) (i := 24)
  simpa [Nat.shiftLeft_eq] using this
theorem split24 (x : Nat) : x = (x / 16777216 * 16777216) ^^^ (x % 16777216) := by
  apply Nat.eq_of_testBit_eq
  intro i
  rw [Nat.testBit_xor]
  have h1 : (x / 16777216 * 16777216).testBit i = (decide (24 ≤ i) && x.testBit i) := by
    have e : x / 16777216 * 16777216 = (x >>> 24) <<< 24 := by rw [Nat.shiftLeft_eq, Nat.shiftRight_eq_div_pow]
    rw [e, Nat.testBit_shiftLeft, Nat.testBit_shiftRight]
    by_cases q : 24 ≤ i
    · simp [q]
    · simp [q]
  have h2 : (x % 16777216).testBit i = (decide (i < 24) && x.testBit i) := Nat.testBit_mod_two_pow x 24 i
  rw [h1, h2]
  by_cases q : 24 ≤ i
  · have q2 : ¬ i < 24 := by omega
    simp [q, q2]
  · have q2 : i < 24 := by omega
    simp [q, q2]
theorem crcStep_eq {x b : Nat} (hx : x < 4294967296) (hb : b < 256) : crcB 8 (x ^^^ b * 16777216) = crcStep x b := by
  have hA : x / 16777216 < 256 := by omega
  have hy : x / 16777216 ^^^ b < 2 ^ 8 := Nat.xor_lt_two_pow hA hb
  have e1 : x ^^^ b * 16777216 = ((x / 16777216 ^^^ b) * 16777216) ^^^ (x % 16777216) := by
    rw [xor_mul24]
    conv => lhs; rw [split24 x]
    rw [Nat.xor_assoc, Nat.xor_comm (x % 16777216), ← Nat.xor_assoc]
  rw [e1, crcB_xor 8 (by omega) (by omega), crcB_low 8 (x := x % 16777216) (by omega)]
  have e2 : (x / 16777216 ^^^ b) * 16777216 % 4294967296 = (x / 16777216 ^^^ b) * 16777216 := by omega
  simp only [crcStep, crcT, e2]
  rw [Nat.xor_comm]
  congr 1
  omega
section
variable {ov : OvT} (H : OvH ov)
include H
theorem rStep_cr {h : Heap} {c x b : Nat} (hx : x < 4294967296) (hb : b < 256) :
    CR Tryz.prog ov 119 [uv x, bv b] ⟨h, c⟩ (fun w st => w = uv (crcStep x b) ∧ Same h c st) := by
  have hxb : x ^^^ b * 16777216 < 2 ^ 32 := Nat.xor_lt_two_pow hx (by omega)
  rw [← crcStep_eq hx hb]
  refine e_2 Tryz.func119 rfl (H _ (by decide)) Tryz.ntmps119 (by decide) ?_
  intro env U
  refine sg 1 J (qA U J (nK (sg 7 J (qM U J (qM U J (qH U J Tryz.underlying5 Tryz.underlying38 wA ?_))))))
  refine q_mul U rfl rfl (m := ((b * 16777216 : Nat) : Int)) (by rw [wrapU32 oA oA]; omega) ?_
  refine qB U J J (xorU _ _ hx oA) ?_
  refine qC U J (CR.mono (rCrcBits_cr H (x := x ^^^ b * 16777216) oA) ?_)
  rintro v ⟨hh1, cc1⟩ ⟨rfl, rfl, hk⟩
  try dsimp only at hk
  refine qA U J (nK (rR (f_1 U J (.inl J) J ?_)))
  exact ⟨rfl, rfl, by dsimp only at *; omega⟩
omit H in
theorem ones32 : ∀ i : _root_.Fin 32, (4294967295 : BitVec 32)[i.val]'i.isLt = true := by decide
omit H in
theorem xor_ones (x : Nat) (h : x < 4294967296) : 4294967295 ^^^ x = 4294967295 - x := by
  have e : (4294967295 : BitVec 32) ^^^ BitVec.ofNat 32 x = 4294967295 - BitVec.ofNat 32 x := by
    have h1 : (4294967295 : BitVec 32) ^^^ BitVec.ofNat 32 x = ~~~ (BitVec.ofNat 32 x) := by
      apply BitVec.eq_of_getElem_eq; intro i hi
      simp only [BitVec.getElem_xor, BitVec.getElem_not]
      have : (4294967295 : BitVec 32)[i] = true := by
        exact ones32 ⟨i, hi⟩
      rw [this]; simp
    rw [h1]
    apply BitVec.eq_of_toNat_eq
    rw [BitVec.toNat_not, BitVec.toNat_sub]
    simp [Nat.mod_eq_of_lt h]; omega
  have e2 := congrArg BitVec.toNat e
  rw [BitVec.toNat_xor, BitVec.toNat_sub] at e2
  simp only [BitVec.toNat_ofNat, Nat.mod_eq_of_lt h] at e2
  have e3 : (4294967295 : BitVec 32).toNat = 4294967295 := rfl
  rw [e3] at e2
  omega
theorem rOf_cr {h : Heap} {c : Nat} {s : List Nat} (h256 : ∀ x ∈ s, x < 256) (hn : s.length ≤ 2 ^ 40) :
    CR Tryz.prog ov 76 [.string (txt s)] ⟨h, c⟩ (fun w st => w = uv (crcOf s) ∧ Same h c st) := by
  have hsz := txt_size s
  have hlt : ∀ (l : List Nat) (x : Nat), x < 4294967296 → l.foldl crcStep x < 4294967296 := by
    intro l
    induction l with
    | nil => intro x hx; exact hx
    | cons y l ih => intro x hx; exact ih _ (crcStep_lt x y)
  refine e_1 Tryz.func76 rfl (H _ (by decide)) Tryz.ntmps76 (by decide) ?_
  intro env U
  refine sg 1 J (qA U J (nK (sg 1 J (qA U J (nK (rS (sg 1 J (qA U J (nK (rB ?_))))))))))
  refine rL (fun m env' s' => ∃ j, m = s.length - j ∧ j ≤ s.length ∧ Hd 18 [(0, .string (txt s)), (4, nv j), (3, uv ((s.take j).foldl crcStep 4294967295))] env' ∧ s'.heap = h ∧ c ≤ s'.ctr) s.length ?_ ?_
  · exact ⟨0, rfl, Nat.zero_le _, Ho U ⟨rfl, rfl, rfl, trivial⟩, rfl, by dsimp only; omega⟩
  rintro m _ ⟨h2, c2⟩ ⟨j, rfl, hj, ⟨env, U, rfl⟩, he, hc2⟩
  dsimp only at he hc2
  subst he
  refine rS (sg 4 J (qM U J (qM U J (qK U J Tryz.underlying9 ?_))))
  rw [hsz]
  refine qB U J J J (nK ?_)
  refine rC U rfl (fun hjn => ?_) (fun hjn => ?_)
  · try simp only [dz, dy] at hjn
    obtain ⟨x, hx⟩ : ∃ x, s[j]? = some x := ⟨_, List.getElem?_eq_getElem (by omega)⟩
    have hx2 := h256 x (List.mem_of_getElem? hx)
    have hxn : (UInt8.ofNat x).toNat = x := by simp [UInt8.toNat_ofNat, Nat.mod_eq_of_lt hx2]
    have htk : (s.take (j + 1)).foldl crcStep 4294967295 = crcStep ((s.take j).foldl crcStep 4294967295) x := by rw [List.take_add_one, hx, List.foldl_append]; rfl
    refine rK (kN (rS (rB (rg 6 J (qM U J (qM U J (qM U J (qJ U J J Tryz.underlying9 oA (txt_get hx) ?_))))))))
    simp only [hxn]
    refine qC U J (CR.mono (rStep_cr H (hlt _ _ oA) hx2) ?_)
    rintro v ⟨hh1, cc1⟩ ⟨rfl, rfl, hk⟩
    try dsimp only at hk
    refine qA U J (rN (kO (kN (rg 3 J (qM U J (qP U J J wA ?_))))))
    refine qA U J (nK ?_)
    exact ⟨s.length - (j + 1), by omega, j + 1, rfl, by omega, Ho U ⟨rfl, rfl, by rw [htk]; rfl, trivial⟩, rfl, by dsimp only at *; omega⟩
  · try simp only [dz, dy] at hjn
    have ej : j = s.length := by omega
    subst ej
    rw [List.take_length]
    have hl0 := hlt s 4294967295 (by omega)
    refine r_exit (kE (kE (kB (kN (sg 3 J (qM U J (q_sub U rfl rfl (m := ((4294967295 - s.foldl crcStep 4294967295 : Nat) : Int)) (by rw [wrapU32 oA oA]; omega) ?_)))))))
    refine qA U J (nK (rR (f_1 U J (.inl J) J ?_)))
    exact ⟨by simp only [crcOf]; rw [xor_ones _ hl0], rfl, by dsimp only; omega⟩
theorem rCombine_cr {h : Heap} {c x y : Nat} (hx : x < 4294967296) (hy : y < 4294967296) :
    CR Tryz.prog ov 87 [uv x, uv y] ⟨h, c⟩ (fun w st => w = uv (crcCom x y) ∧ Same h c st) := by
  have h2 : x * 2 % 4294967296 ^^^ x / 2147483648 = x * 2 % 4294967296 + x / 2147483648 := by
    rcases (by omega : x / 2147483648 = 0 ∨ x / 2147483648 = 1) with q | q
    · rw [q]; simp
    · rw [q]
      have e : x * 2 % 4294967296 = 2 * (x % 2147483648) := by omega
      rw [e, Nat.mul_comm]
      have := Nat.shiftLeft_add_eq_or_of_lt (i := 1) (b := 1) (by omega) (x % 2147483648)
      rw [Nat.shiftLeft_eq] at this
      have e5 : (x % 2147483648 * 2) ^^^ 1 = (x % 2147483648 * 2) ||| 1 := by
        apply Nat.eq_of_testBit_eq; intro i
        rw [Nat.testBit_xor, Nat.testBit_or]
        cases i with
        | zero => simp
        | succ i => simp [Nat.testBit_succ]
      rw [e5]; exact this.symm
  have h3 : crcCom x y = (x * 2 % 4294967296 + x / 2147483648) ^^^ y := by simp only [crcCom, h2]
  rw [h3]
  refine e_2 Tryz.func87 rfl (H _ (by decide)) Tryz.ntmps87 (by decide) ?_
  intro env U
  refine sg 1 J (qA U J (nK (sg 3 J (qM U J (q_mul U rfl rfl (m := ((x * 2 % 4294967296 : Nat) : Int)) (by have := wrapU32m (x * 2); simpa using this) ?_)))))
  refine qA U J (nK (rS (sg 2 J (qM U J (qB U J J J (nK ?_))))))
  refine rC U rfl (fun hge => ?_) (fun hge => ?_)
  · try simp only [dz, dy] at hge
    refine rg 3 J (qM U J (qP U rfl rfl (m := ((x * 2 % 4294967296 + x / 2147483648 : Nat) : Int)) (by rw [wrapU32 oA oA]; omega) ?_))
    refine qA U J (nK (sg 4 J (qM U J (qM U J (qB U J J (xorU _ _ oA hy) ?_)))))
    refine qA U J (nK (rR (f_1 U J (.inl J) J ?_)))
    exact ⟨rfl, rfl, by dsimp only; omega⟩
  · try simp only [dz, dy] at hge
    refine rK (kN (sg 4 J (qM U J (qM U J (qB U J J (xorU _ _ oA hy) ?_)))))
    refine qA U J (nK (rR (f_1 U J (.inl J) J ?_)))
    have e0 : x / 2147483648 = 0 := by omega
    rw [e0, Nat.add_zero]
    exact ⟨rfl, rfl, by dsimp only; omega⟩
end
def fourL : List Nat → Bool
  | a :: b :: c :: d :: _ => a == b && b == c && c == d
  | _ => false
def leadL (p : Nat) : List Nat → Nat
  | [] => 0
  | x :: r => if x = p then leadL p r + 1 else 0
theorem unpk_cons {k p x : Nat} {r : List Nat} (hk : k ≠ 4) : unpk k p (x :: r) = if 0 < k ∧ x = p then (unpk (k + 1) x r).map (x :: ·) else (unpk 1 x r).map (x :: ·) := by
  simp only [unpk]; rw [if_neg hk]
theorem unpk_run {s : List Nat} : ∀ {k p : Nat}, k + leadL p s < 4 → unpk k p s = unpk 0 0 s := by
  induction s with
  | nil => intro k p h; simp only [unpk]; rw [if_neg (by omega)]; rfl
  | cons x r ih =>
    intro k p h
    simp only [leadL] at h
    have hk4 : k ≠ 4 := by split at h <;> omega
    rw [unpk_cons hk4, unpk_cons (show 0 ≠ 4 by omega), if_neg (show ¬ (0 < 0 ∧ x = 0) by omega)]
    by_cases q : x = p
    · subst q
      rw [if_pos rfl] at h
      by_cases hk : 0 < k
      · rw [if_pos ⟨hk, rfl⟩, ih (k := k + 1) (p := x) (by omega), ih (k := 1) (p := x) (by omega)]
      · rw [if_neg (by omega)]
    · rw [if_neg (by omega)]
theorem unpk_prev (p : Nat) (s : List Nat) : unpk 0 p s = unpk 0 0 s := by
  cases s with
  | nil => rfl
  | cons x r => rw [unpk_cons (show 0 ≠ 4 by omega), unpk_cons (show 0 ≠ 4 by omega), if_neg (by omega), if_neg (by omega)]
theorem unpk_not {x : Nat} {r : List Nat} (h : fourL (x :: r) = false) : unpk 0 0 (x :: r) = (unpk 0 0 r).map ([x] ++ ·) := by
  have U : 1 + leadL x r < 4 := by
    rcases r with _ | ⟨b, _ | ⟨c, _ | ⟨d, t⟩⟩⟩
    · simp [leadL]
    · simp only [leadL]; split <;> omega
    · simp only [leadL]; split <;> (try split) <;> omega
    · simp only [fourL, Bool.and_eq_false_iff, beq_eq_false_iff_ne, ne_eq] at h
      simp only [leadL]
      by_cases q1 : b = x
      · rw [if_pos q1]
        by_cases q2 : c = x
        · rw [if_pos q2]
          by_cases q3 : d = x
          · omega
          · rw [if_neg q3]; omega
        · rw [if_neg q2]; omega
      · rw [if_neg q1]; omega
  rw [← unpk_run U]
  rw [unpk_cons (show 0 ≠ 4 by omega), if_neg (by omega)]; rfl
theorem unpk_four {x : Nat} {t : List Nat} : unpk 0 0 (x :: x :: x :: x :: t) = (unpk 4 x t).map (List.replicate 4 x ++ ·) := by
  simp [unpk]
  cases unpk 4 x t <;> simp [Except.map]
section
variable {ov : OvT} (H : OvH ov)
include H
theorem rLinks_cr {h : Heap} {c : Nat} {s : List Nat} (h256 : ∀ x ∈ s, x < 256) (hn : s.length ≤ 1000000) :
    CR Tryz.prog ov 118 [.string (txt s)] ⟨h, c⟩ (fun w st => ∃ a cp, w = .slice a s.length cp ∧ SlR 3 1 ((ordU s 256).map nv) a s.length cp st.heap.get ∧ (∀ z ∈ own a, c ≤ z ∧ z < st.ctr) ∧ Keep [] h c st) := by
  have hsz := txt_size s
  refine e_1 Tryz.func118 rfl (H _ (by decide)) Tryz.ntmps118 (by decide) ?_
  intro env U
  refine sg 1 J (qA U J (nK (sg 1 J (qA U J (nK (rS (sg 1 J (qM U J (nK (rB ?_))))))))))
  refine rL (fun m env' s' => ∃ b a cp, m = 256 - b ∧ b ≤ 256 ∧ Hd 27 [(0, .string (txt s)), (3, .slice a (fromC s b) cp), (6, nv b)] env' ∧ SlR 3 1 ((ordU s b).map nv) a (fromC s b) cp s'.heap.get ∧ (∀ z ∈ own a, c ≤ z ∧ z < s'.ctr) ∧ Keep [] h c s') 256 ?_ ?_
  · exact ⟨0, none, 0, rfl, by omega, Ho U ⟨rfl, rfl, rfl, trivial⟩, SlR.nil, by simp [own], Keep.refl (by omega)⟩
  rintro m _ ⟨h2, c2⟩ ⟨b, a, cp, rfl, hb, ⟨env, U, rfl⟩, hS, hO, hK⟩
  dsimp only at hS hO
  have hcc := hK.1
  dsimp only at hcc
  refine sg 1 J (qB U J J J (nK (rS ?_)))
  refine rC U rfl (fun hb2 => ?_) (fun hb2 => ?_)
  · try simp only [dz, dy] at hb2
    refine rK (kN (rS (rB (sg 2 J (qM U J (qA U J (nK (sg 3 J (qM U J (qK U J Tryz.underlying9 ?_))))))))))
    rw [hsz]
    refine qM U J (nK (rB ?_))
    refine rL (fun m env' s' => ∃ j a cp, m = s.length - j ∧ j ≤ s.length ∧ Hd 27 [(0, .string (txt s)), (3, .slice a (fromC s b + cntB s j b) cp), (6, nv b), (4, nv b), (10, nv s.length), (11, nv j)] env' ∧ SlR 3 1 ((ordU s b ++ idx ((s.map (· == b)).take j) 0).map nv) a (fromC s b + cntB s j b) cp s'.heap.get ∧ (∀ z ∈ own a, c ≤ z ∧ z < s'.ctr) ∧ Keep [] h c s') s.length ?_ ?_
    · refine ⟨0, a, cp, rfl, Nat.zero_le _, Ho U ⟨rfl, rfl, rfl, rfl, rfl, rfl, trivial⟩, ?_, fun z hz => by have := hO z hz; dsimp only; omega, hK.up oA⟩
      simpa [cntB, idx] using hS
    rintro m _ ⟨h3, c3⟩ ⟨j, a, cp, rfl, hj, ⟨env, U, rfl⟩, hS, hO, hK⟩
    dsimp only at hS hO
    have hcc3 := hK.1
    dsimp only at hcc3
    have hcle := cntB_le s j b
    have hfle := fromC_le s (b + 1)
    have hfs : fromC s (b + 1) = fromC s b + (those s b).length := rfl
    refine sg 1 J (qB U J J J (nK (rS ?_)))
    refine rC U rfl (fun hjn => ?_) (fun hjn => ?_)
    · try simp only [dz, dy] at hjn
      obtain ⟨x, hx⟩ : ∃ x, s[j]? = some x := ⟨_, List.getElem?_eq_getElem (by omega)⟩
      have hx2 := h256 x (List.mem_of_getElem? hx)
      have hxn : (UInt8.ofNat x).toNat = x := by simp [UInt8.toNat_ofNat, Nat.mod_eq_of_lt hx2]
      have hcs := cntB_succ b hx
      have hts := those_take (n := b) hx
      refine rK (kN (rS (rB (sg 2 J (qM U J (qA U J (nK (sg 6 J (qM U J (qM U J (qJ U J J Tryz.underlying9 oA (txt_get hx) ?_)))))))))))
      simp only [hxn]
      refine qH U J Tryz.underlying5 Tryz.underlying3 wA ?_
      refine qM U J (qB U J J J (nK ?_))
      refine rC U rfl (fun hxb => ?_) (fun hxb => ?_)
      · try simp only [dz, dy] at hxb
        rw [if_pos (by omega)] at hcs hts
        refine rg 5 J (qM U J (qM U J (q1_ U J a171 J (qX U rfl rfl a171 a171 (hS.move (fun z hz => by have := hO z hz; rw [T.get_set, if_neg oA])) ((T.get_set _ _ _ _).trans (if_pos rfl)) rfl oA oA ?_))))
        intro a2 cp2 h4 hS2 hO2 hF2
        refine qA U J (rN (kO (kN (rg 2 J (qP U J J wA ?_)))))
        refine qM U J (nK ?_)
        refine ⟨s.length - (j + 1), by omega, j + 1, a2, cp2, rfl, by omega, Ho U ⟨rfl, by rw [hcs]; rfl, rfl, rfl, rfl, rfl, trivial⟩, ?_, fun z hz => by have := hO2 z hz; dsimp only; omega, hK.app2 hF2 (fun z hz => .inl (hO z hz).1) oA oA oA⟩
        rw [hcs, hts, ← List.append_assoc, List.map_append (l₁ := ordU s b ++ idx (List.take j (List.map (· == b) s)) 0)]; exact hS2
      · try simp only [dz, dy] at hxb
        rw [if_neg (by omega)] at hcs hts
        refine rK (kO (kN (rg 2 J (qP U J J wA ?_))))
        refine qM U J (nK ?_)
        exact ⟨s.length - (j + 1), by omega, j + 1, a, cp, rfl, by omega, Ho U ⟨rfl, by rw [hcs]; rfl, rfl, rfl, rfl, rfl, trivial⟩, by rw [hcs, hts]; exact hS, fun z hz => by have := hO z hz; dsimp only; omega, hK.up (by omega)⟩
    · try simp only [dz, dy] at hjn
      have ej : j = s.length := by omega
      subst ej
      rw [cntB_all (Nat.le_refl _)] at hS
      rw [cntB_all (Nat.le_refl _)]
      rw [List.take_of_length_le (by simp)] at hS
      refine r_exit (kE (kE (kB (kO (kN (rg 2 J (qP U J J wA ?_)))))))
      refine qM U J (nK ?_)
      refine ⟨256 - (b + 1), by omega, b + 1, a, cp, rfl, by omega, Ho U ⟨rfl, by rw [hfs]; rfl, rfl, trivial⟩, by rw [ordU_succ, hfs]; exact hS, fun z hz => by have := hO z hz; dsimp only; omega, hK.up oA⟩
  · try simp only [dz, dy] at hb2
    have eb : b = 256 := by omega
    subst eb
    rw [fromC_all h256] at hS
    rw [fromC_all h256]
    refine r_exit (kE (kE (kB (kN (sg 2 J (qM U J (qA U J (nK (rR (f_1 U J (.inl J) J ?_))))))))))
    exact ⟨a, cp, rfl, hS, fun z hz => by have := hO z hz; dsimp only; omega, hK.up (by omega)⟩
end
end Go.Proofs.YtegjkhgaoabfcaaGreat
