/- Part 4 (a part of the proof of UnstreamSteps; no condition). -/
import Derived.Laws.Strings
import Derived.Test.YtegjkhgaoabfcaaGreatWc
set_option linter.unusedSimpArgs false
set_option linter.unusedVariables false
set_option maxRecDepth 10000
namespace Go.Proofs.YtegjkhgaoabfcaaGreat
open Go.AE
def OvH (ov : OvT) : Prop := ∀ k, k ∉ [65, 63, 109, 195, 11, 37, 33] → ov k = none
abbrev ptr (b : Nat) : Value := .pointer (some ⟨b, 0, none⟩)
abbrev iv (n : Int) : Value := .int .i64 n
def Same (h : Heap) (c : Nat) (s : St) : Prop := h = s.heap ∧ c ≤ s.ctr
def BitR (all : List Bool) (dr at_ : Nat) (blk : Option Blk) : Prop := ∃ (s : ByteArray), blk = some ⟨[.string s, iv dr, iv at_], 123, 0⟩ ∧ all.drop (8 * dr) = bitsL s.data.toList ∧ all.length = 8 * (dr + s.size) ∧ 8 * dr ≤ at_ ∧ at_ ≤ all.length ∧ all.length < 2 ^ 50
theorem fdiv_pow (a j : Nat) : (a : Int).fdiv (2 ^ j) = ((a / 2 ^ j : Nat) : Int) := by
  rw [Int.fdiv_eq_ediv_of_nonneg _ (by exact_mod_cast Nat.zero_le (2 ^ j))]; simp
theorem shr8 {P : Program} {t : TypeId} (x : UInt8) (j : Int) (h : 0 ≤ j ∧ j ≤ 7) : evBin P .shr t (.int .u8 x.toNat) (.int .i64 j) = some (.int .u8 ((x.toNat / 2 ^ j.toNat : Nat) : Int)) := by
  have h1 : ¬ j < 0 := by omega
  have h2 : min j.toNat IntKind.u8.bits = j.toNat := by simp [IntKind.bits]; omega
  simp only [evBin, if_neg h1, h2, fdiv_pow]
theorem and_one {P : Program} {t : TypeId} (m : Nat) (h : m < 256) : evBin P .and t (.int .u8 m) (.int .u8 1) = some (.int .u8 ((m % 2 : Nat) : Int)) := by
  have : ∀ m : Fin 256, evBin P .and t (.int .u8 (m.val : Int)) (.int .u8 1) = some (.int .u8 ((m.val % 2 : Nat) : Int)) := by
    intro m
    have h3 : IntKind.u8.wrap ((BitVec.ofInt IntKind.u8.bits (m.val : Int) &&& BitVec.ofInt IntKind.u8.bits 1).toNat) = ((m.val % 2 : Nat) : Int) := by revert m; decide +kernel
    simp only [evBin, if_true, h3]
  exact this ⟨m, h⟩
theorem bit_at {s : ByteArray} {dr k : Nat} {all : List Bool} {t : Bool} (h1 : all.drop (8 * dr) = bitsL s.data.toList) (h2 : 8 * dr ≤ k) (h : all[k]? = some t) : ∃ x : UInt8, s[k / 8 - dr]? = some x ∧ t = x.toNat.testBit (7 - k % 8) := by
  have h3 : (all.drop (8 * dr))[k - 8 * dr]? = some t := by rw [List.getElem?_drop]; rw [← h]; congr 1; omega
  rw [h1, bitsL_get] at h3
  have e1 : (k - 8 * dr) / 8 = k / 8 - dr := by omega
  have e2 : (k - 8 * dr) % 8 = k % 8 := by omega
  rw [e1, e2] at h3
  cases hx : s.data.toList[k / 8 - dr]? with
  | none => rw [hx] at h3; cases h3
  | some x =>
    rw [hx] at h3; simp only [Option.map_some, Option.some.injEq] at h3
    refine ⟨x, ?_, h3.symm⟩
    rw [Array.getElem?_toList] at hx
    rw [← hx]; rfl
theorem shl1 {P : Program} {t : TypeId} {a : Int} (h : 0 ≤ a ∧ a < 2 ^ 31) : evBin P .shl t (.int .u32 a) (.int .u64 1) = some (.int .u32 (2 * a)) := by
  have h1 : ¬ (1 : Int) < 0 := by omega
  have h2 : min (1 : Int).toNat IntKind.u32.bits = 1 := by simp [IntKind.bits]
  simp only [evBin, if_neg h1, h2]
  rw [wrapU32 (by omega) (by omega)]; congr 2; omega
theorem or1 {P : Program} {t : TypeId} {a b : Nat} (h : a < 2 ^ 31) (hb : b < 2) : evBin P .or t (.int .u32 (2 * (a : Int))) (.int .u32 b) = some (.int .u32 ((2 * a + b : Nat) : Int)) := by
  have h3 : IntKind.u32.wrap ((BitVec.ofInt IntKind.u32.bits (2 * (a : Int)) ||| BitVec.ofInt IntKind.u32.bits (b : Int)).toNat) = ((2 * a + b : Nat) : Int) := by
    have e1 : BitVec.ofInt 32 (2 * (a : Int)) = BitVec.ofNat 32 (2 * a) := by
      have : (2 * (a : Int)) = ((2 * a : Nat) : Int) := by omega
      rw [this]; rfl
    have e2 : BitVec.ofInt 32 (b : Int) = BitVec.ofNat 32 b := rfl
    have e3 : (BitVec.ofNat 32 (2 * a) ||| BitVec.ofNat 32 b).toNat = 2 * a + b := by
      rw [BitVec.toNat_or, BitVec.toNat_ofNat, BitVec.toNat_ofNat, Nat.mod_eq_of_lt (by omega), Nat.mod_eq_of_lt (by omega)]
      have := Nat.shiftLeft_add_eq_or_of_lt (i := 1) (b := b) (by omega) a
      rw [Nat.shiftLeft_eq] at this; rw [Nat.mul_comm 2 a]; rw [← this]
    have e5 : (BitVec.ofInt 32 (2 * (a : Int)) ||| BitVec.ofInt 32 (b : Int)).toNat = 2 * a + b := by rw [e1, e2, e3]
    exact (congrArg (fun m : Nat => IntKind.u32.wrap (m : Int)) e5).trans (wrapU32 (by omega) (by omega))
  simp only [evBin, if_true, h3]
theorem num_snoc (l : List Bool) (t : Bool) : num (l ++ [t]) = 2 * num l + t.toNat := by simp [num, List.foldl_append]
theorem num_lt (l : List Bool) : num l < 2 ^ l.length := by
  have : ∀ (l : List Bool) (v : Nat), l.foldl (fun v b => 2 * v + b.toNat) v < (v + 1) * 2 ^ l.length := by
    intro l
    induction l with
    | nil => intro v; simp
    | cons t l ih =>
      intro v; simp only [List.foldl_cons, List.length_cons]
      refine Nat.lt_of_lt_of_le (ih _) ?_
      rw [Nat.pow_succ, Nat.mul_comm (2 ^ l.length) 2, ← Nat.mul_assoc]
      exact Nat.mul_le_mul_right _ (by cases t <;> simp <;> omega)
  simpa [num] using this l 0
theorem take_succ_get {α : Type} {l : List α} {k j : Nat} {t : α} (h : l[k + j]? = some t) : (l.drop k).take (j + 1) = (l.drop k).take j ++ [t] := by
  rw [List.take_add_one, List.getElem?_drop, h]; rfl
section
variable {ov : OvT} (H : OvH ov)
include H
theorem end_cr {h : Heap} {c b : Nat} {s : ByteArray} {dr a : Int} (hb : h.get b = some ⟨[.string s, iv dr, iv a], 123, 0⟩) (hd : 0 ≤ dr) (hs : dr + s.size < 2 ^ 56) :
    CR Tryz.prog ov 71 [ptr b] ⟨h, c⟩ (fun v st => v = iv (8 * (dr + s.size)) ∧ Same h c st) := by
  refine e_1 Tryz.func71 rfl (H _ (by decide)) Tryz.ntmps71 (by decide) ?_
  intro env U
  refine sg 1 J (qA U J (nK (rS (rD [] (by decide +kernel) (by decide +kernel) (n := 12) rfl ?_))))
  refine qM U J (qN U J (qF U J fa123_1 (qL U J aA ((p3.1 _ _).trans J) ?_)))
  refine qM U J (qN U J (qF U J fa123_0 (qL U J aA ((p9.1 _ _).trans J) ?_)))
  refine qK U J Tryz.underlying9 (qP U J J wA ?_)
  refine q_mul U J J wA ?_
  refine qA U J (ro_nild (kN (rR (f_1 U J (.inl J) J ?_))))
  exact ⟨rfl, rfl, by simp <;> omega⟩
theorem left_cr {h : Heap} {c b dr at_ : Nat} {all : List Bool} (hR : BitR all dr at_ (h.get b)) (hc : b < c) :
    CR Tryz.prog ov 20 [ptr b] ⟨h, c⟩ (fun v st => v = iv (all.length - at_ : Int) ∧ Same h c st) := by
  obtain ⟨s, hb, h1, h2, h3, h4, h5⟩ := hR
  refine e_1 Tryz.func20 rfl (H _ (by decide)) Tryz.ntmps20 (by decide) ?_
  intro env U
  refine sg 1 J (qA U J (nK (rS (sg 2 J (qM U J (qB U J J (nq36 _) (nK (rF U J dA ?_))))))))
  refine rK (kN (rS (rD [(5, 0)] (by decide +kernel) (by decide +kernel) (n := 8) rfl ?_)))
  refine qM U J (qC U J (CR.mono (end_cr H hb oA oA) ?_))
  rintro v ⟨hh1, cc1⟩ ⟨rfl, rfl, hk⟩
  try dsimp only at hk
  refine qM U J (qN U J (qF U J fa123_2 (qL U J aA ((p3.1 _ _).trans J) ?_)))
  refine q_sub U J J wA ?_
  refine qA U J ?_
  refine ro_nilp ?_ ?_
  · exact all1 (pair_load U rfl rfl rfl rfl ((heapAt_old rfl (by omega)).trans hb) ((p3.1 _ _).trans rfl) rfl (same_int _ _))
  refine kN (rR (f_1 U J (.inl J) J ?_))
  exact ⟨by simp only [h2]; rfl, rfl, by simp <;> omega⟩
theorem bit_cr {h : Heap} {c b k dr at_ : Nat} {all : List Bool} {t : Bool} (hR : BitR all dr at_ (h.get b)) (hk : at_ ≤ k) (ht : all[k]? = some t) :
    CR Tryz.prog ov 183 [ptr b, iv k] ⟨h, c⟩ (fun v st => v = .int .u32 t.toNat ∧ Same h c st) := by
  obtain ⟨s, hb, h1, h2, h3, h4, h5⟩ := hR
  obtain ⟨x, hx, hxt⟩ := bit_at h1 (by omega) ht
  have hx' : s[((k : Int) / 8 - dr).toNat]? = some x := by rw [← hx]; congr 1; omega
  have hlt := x.toNat_lt
  have hkl : k < all.length := by rcases Nat.lt_or_ge k all.length with h | h; exact h; rw [List.getElem?_eq_none h] at ht; cases ht
  refine e_2 Tryz.func183 rfl (H _ (by decide)) Tryz.ntmps183 (by decide) ?_
  intro env U
  refine sg 1 J (qA U J (nK (rS (rD [] (by decide +kernel) (by decide +kernel) (n := 13) rfl ?_))))
  refine qM U J (qN U J (qF U J fa123_0 (qL U J aA ((p9.1 _ _).trans J) ?_)))
  refine qM U J (q_quo U rfl rfl ⟨by omega, by omega⟩ wA ?_)
  refine qM U J (qN U J (qF U J fa123_1 (qL U J aA ((p3.1 _ _).trans J) ?_)))
  refine q_sub U J J wA ?_
  refine qJ U J J Tryz.underlying9 oA aA ?_
  refine qA U J (ro_nild (kN (sg 8 J (qM U J (qM U J (q_rem U rfl rfl ⟨by omega, by omega⟩ ?_))))))
  refine q_sub U J J wA ?_
  refine qB U rfl rfl (shr8 x _ ⟨by omega, by omega⟩) ?_
  refine qB U J J (and_one _ (Nat.lt_of_le_of_lt (Nat.div_le_self _ _) oA)) ?_
  refine qH U J Tryz.underlying5 Tryz.underlying38 wA ?_
  refine qA U J (nK (rR (f_1 U J (.inl J) J ?_)))
  refine ⟨?_, rfl, by simp <;> omega⟩
  rw [hxt, Nat.testBit_eq_decide_div_mod_eq]
  have e7 : (7 - (k : Int) % 8).toNat = 7 - k % 8 := by omega
  rw [e7]
  have := Nat.mod_two_eq_zero_or_one (x.toNat / 2 ^ (7 - k % 8))
  rcases this with e | e <;> rw [e] <;> rfl
theorem at_cr {h : Heap} {c b dr at_ : Nat} {all : List Bool} (hR : BitR all dr at_ (h.get b)) :
    CR Tryz.prog ov 22 [ptr b] ⟨h, c⟩ (fun v st => v = iv at_ ∧ Same h c st) := by
  obtain ⟨s, hb, h1, h2, h3, h4, h5⟩ := hR
  refine e_1 Tryz.func22 rfl (H _ (by decide)) Tryz.ntmps22 (by decide) ?_
  intro env U
  refine sg 1 J (qA U J (nK (rS (sg 2 J (qM U J (qB U J J (nq36 _) (nK (rF U J dA ?_))))))))
  refine rK (kN (sg 5 J (qM U J (qN U J (qF U J fa123_2 (qL U J aA ((p3.1 _ _).trans J) ?_))))))
  refine qA U J (nK (rR (f_1 U J (.inl J) J ?_)))
  exact ⟨rfl, rfl, by simp <;> omega⟩
theorem newReader_cr {h : Heap} {c : Nat} {s : ByteArray} (hs : s.size < 2 ^ 46) :
    CR Tryz.prog ov 17 [.string s] ⟨h, c⟩ (fun v st => ∃ b, v = ptr b ∧ c ≤ b ∧ b < st.ctr ∧ BitR (bitsL s.data.toList) 0 0 (st.heap.get b) ∧ Keep [] h c st) := by
  refine e_1 Tryz.func17 rfl (H _ (by decide)) Tryz.ntmps17 (by decide) ?_
  intro env U
  refine sg 1 J (qA U J (nK (sg 4 J (qM U J (qU U rfl i123 z123 rfl (by simp [Program.built, Instr.fill, Tryz.underlying123, Value.cells]; rfl) ?_)))))
  refine q_box U J (qA U J (nK (rR (f_1 U J (.inl J) J ?_))))
  refine ⟨_, rfl, by omega, by simp <;> omega, ⟨s, ?_, by simp, by rw [bitsL_length]; simp, by omega, by omega, by rw [bitsL_length]; simp <;> omega⟩, by simp <;> omega, fun x hx hn => ?_⟩
  · simp [T.get_set, Value.cells]
  · simp only [T.get_set]; rw [if_neg (by omega)]
theorem seek_cr {h : Heap} {c b dr at_ k : Nat} {all : List Bool} (hR : BitR all dr at_ (h.get b)) (hk1 : 8 * dr ≤ k) (hk2 : k ≤ all.length) :
    CR Tryz.prog ov 239 [ptr b, iv k] ⟨h, c⟩ (fun v st => v = iv 0 ∧ BitR all dr k (st.heap.get b) ∧ Keep [b] h c st) := by
  obtain ⟨s, hb, h1, h2, h3, h4, h5⟩ := hR
  refine e_2 Tryz.func239 rfl (H _ (by decide)) Tryz.ntmps239 (by decide) ?_
  intro env U
  refine sg 1 J (qA U J (nK (rS (rB (sg 3 J (qM U J (qB U J J (nq36 _) (qA U J (nK (rF U J dA ?_))))))))))
  refine sg 14 J (qM U J (qM U J (qN U J (qF U J fa123_1 (qL U J gA ((p3.1 _ _).trans J) ?_)))))
  refine q_mul U J J wA ?_
  refine qB U J J J (qM U J ?_)
  refine q_case U (rfl : lk _ _ 16 = _) (fun hlt => ?_) (fun hlt => ?_)
  · have hlt_ := hlt
    try simp only [dz] at hlt_
    omega
  · have hlt_ := hlt
    try simp only [dz] at hlt_
    refine qG U J J J hlt (qM U J (qG U J J J hlt (qM U J (qG U J J J hlt (qC U J (CR.mono (end_cr H hb oA oA) ?_))))))
    rintro v ⟨hh1, cc1⟩ ⟨rfl, rfl, hk⟩
    try dsimp only at hk
    refine qG U J J J hlt (qB U J J J (qQ U rfl rfl rfl (if_neg (by rw [hlt]; decide)) ?_))
    refine qA U J (nK (rF U J dA ?_))
    refine rK (kO (kN (sg 5 J (qM U J (qM U J (qN U J (qF U J fa123_2 (qW U rfl rfl gA p3 rfl rfl (by first | decide | (simp; done) | (simp; omega)) ?_))))))))
    refine nK (sg 1 J (qA U J (nK (rR (f_1 U J (.inl J) J ?_)))))
    refine ⟨rfl, ⟨s, ?_, h1, h2, hk1, hk2, h5⟩, by simp <;> omega, fun x hx hn => ?_⟩
    · simp [T.get_set]
    · simp only [T.get_set]; rw [if_neg (by simpa using hn)]
theorem get_cr {h : Heap} {c b dr at_ n : Nat} {all : List Bool} (hR : BitR all dr at_ (h.get b)) (hc : b < c) (hn : n ≤ 32) (hle : at_ + n ≤ all.length) :
    CR Tryz.prog ov 151 [ptr b, iv n] ⟨h, c⟩ (fun v st => v = .tuple #[.int .u32 (num ((all.drop at_).take n)), iv 0] ∧ BitR all dr (at_ + n) (st.heap.get b) ∧ Keep [b] h c st) := by
  refine e_2 Tryz.func151 rfl (H _ (by decide)) Tryz.ntmps151 (by decide) ?_
  intro env U
  refine sg 2 J (qA U J (qA U J (nK (rS (rB (sg 3 J (qM U J (qB U J J (nq36 _) (qA U J (nK (rF U J dA ?_)))))))))))
  refine sg 7 J (qM U J (qB U J J J (qM U J ?_)))
  refine q_case U (rfl : lk _ _ 13 = _) (fun h0 => ?_) (fun h0 => ?_)
  · have h0_ := h0
    try simp only [dz] at h0_
    omega
  · have h0_ := h0
    try simp only [dz] at h0_
    refine qG U J J J h0 (qM U J (qG U J J J h0 (qB U J J J (qQ U rfl rfl rfl (if_neg (by rw [h0]; decide)) ?_))))
    refine qA U J (nK (rF U J dA ?_))
    refine sg 5 J (qM U J (qC U J (CR.mono (left_cr H hR oA) ?_)))
    rintro v ⟨hh1, cc1⟩ ⟨rfl, rfl, hk⟩
    try dsimp only at hk
    refine qM U J (qB U J J J (qA U J (nK (rF U J dA ?_))))
    refine rK (kO (kN (sg 1 J (qA U J (nK (rS (sg 2 J (qM U J (qM U J (nK (rB ?_)))))))))))
    refine rL (fun m env' s' => ∃ j, m = n - j ∧ j ≤ n ∧ Hd 43 [(0, ptr b), (6, .int .u32 (num ((all.drop at_).take j))), (22, iv n), (23, iv j)] env' ∧ BitR all dr (at_ + j) (s'.heap.get b) ∧ Keep [b] h c s') n ?_ ?_
    · exact ⟨0, rfl, by omega, Ho U ⟨rfl, rfl, rfl, rfl, trivial⟩, hR, by simp <;> omega, fun _ _ _ => rfl⟩
    rintro m _ ⟨h2, c2⟩ ⟨j, rfl, hj, ⟨env, U, rfl⟩, hR2, hK⟩
    dsimp only at hR2
    refine sg 1 J (qB U J J J (nK (rS ?_)))
    refine rC U rfl (fun hlt => ?_) (fun hlt => ?_)
    · try simp only [dz, dy] at hlt
      obtain ⟨s, hb, q1, q2, q3, q4, q5⟩ := id hR2
      obtain ⟨t, ht⟩ : ∃ t, all[at_ + j]? = some t := ⟨_, List.getElem?_eq_getElem (by omega)⟩
      have hv : num ((all.drop at_).take j) < 2 ^ 31 := Nat.lt_of_lt_of_le (num_lt _) (Nat.pow_le_pow_right (by omega) (by rw [List.length_take]; omega))
      refine rK (kN (rS (rB (sg 10 J (qM U J (qB U rfl rfl (shl1 ⟨by omega, by exact_mod_cast hv⟩) ?_))))))
      refine qM U J (qM U J (qN U J (qF U J fa123_2 (qL U J gA ((p3.1 _ _).trans J) ?_))))
      refine qC U J (CR.mono (bit_cr H (by simpa using hR2) (Nat.le_refl _) ht) ?_)
      rintro v ⟨hh2, cc2⟩ ⟨rfl, rfl, hk⟩
      try dsimp only at hk
      refine qB U rfl rfl (or1 hv (by cases t <;> decide)) ?_
      refine qA U J (nK (rg 8 J (qM U J (qN U J (qF U J fa123_2 (qL U J gA ((p3.1 _ _).trans J) ?_))))))
      refine qP U J J wA ?_
      refine qN U J (qF U J fa123_2 (qW U rfl rfl gA p3 rfl rfl (by first | decide | (simp; done) | (simp; omega)) ?_))
      refine rN (kO (kN (rg 2 J (qP U J J wA ?_))))
      refine qM U J (nK ?_)
      refine ⟨n - (j + 1), by omega, j + 1, rfl, by omega, Ho U ⟨rfl, ?_, rfl, rfl, trivial⟩, ⟨s, ?_, q1, q2, by omega, by omega, q5⟩, Nat.le_trans hK.1 (by simp <;> omega), fun x hx hm => ?_⟩
      · rw [take_succ_get ht, num_snoc]; rfl
      · simp [T.get_set]; omega
      · simp only [T.get_set]; rw [if_neg (by simpa using hm)]; exact hK.2 x hx hm
    · try simp only [dz, dy] at hlt
      refine r_exit (kE (kE (kB (kN (sg 3 J (qM U J (qA U J (qA U J (nK (rR (f_2 U J (.inl J) J J ?_)))))))))))
      have e : j = n := by omega
      subst e
      exact ⟨rfl, hR2, Nat.le_trans hK.1 (by simp <;> omega), hK.2⟩
theorem get_short_cr {h : Heap} {c b dr at_ n : Nat} {all : List Bool} (hR : BitR all dr at_ (h.get b)) (hc : b < c) (hn : n ≤ 32) (hle : all.length < at_ + n) :
    CR Tryz.prog ov 151 [ptr b, iv n] ⟨h, c⟩ (fun v st => v = .tuple #[.int .u32 0, iv 3] ∧ Same h c st) := by
  obtain ⟨s, hb, q1, q2, q3, q4, q5⟩ := id hR
  refine e_2 Tryz.func151 rfl (H _ (by decide)) Tryz.ntmps151 (by decide) ?_
  intro env U
  refine sg 2 J (qA U J (qA U J (nK (rS (rB (sg 3 J (qM U J (qB U J J (nq36 _) (qA U J (nK (rF U J dA ?_)))))))))))
  refine sg 7 J (qM U J (qB U J J J (qM U J ?_)))
  refine q_case U (rfl : lk _ _ 13 = _) (fun h0 => ?_) (fun h0 => ?_)
  · have h0_ := h0
    try simp only [dz] at h0_
    omega
  · have h0_ := h0
    try simp only [dz] at h0_
    refine qG U J J J h0 (qM U J (qG U J J J h0 (qB U J J J (qQ U rfl rfl rfl (if_neg (by rw [h0]; decide)) ?_))))
    refine qA U J (nK (rF U J dA ?_))
    refine sg 5 J (qM U J (qC U J (CR.mono (left_cr H hR oA) ?_)))
    rintro v ⟨hh1, cc1⟩ ⟨rfl, rfl, hk⟩
    try dsimp only at hk
    refine qM U J (qB U J J J (qA U J (nK (rT U J dA ?_))))
    refine sg 2 J (qA U J (qA U J (nK (rR (k_bloR (kR (f_2 U J (.inl J) J J ?_)))))))
    exact ⟨rfl, rfl, by simp <;> omega⟩
theorem align_cr {h : Heap} {c b dr at_ : Nat} {all : List Bool} (hR : BitR all dr at_ (h.get b)) :
    CR Tryz.prog ov 157 [ptr b] ⟨h, c⟩ (fun v st => BitR all dr ((at_ + 7) / 8 * 8) (st.heap.get b) ∧ Keep [b] h c st) := by
  refine e_1 Tryz.func157 rfl (H _ (by decide)) Tryz.ntmps157 (by decide) ?_
  intro env U
  refine rB ?_
  refine rL (fun m env' s' => ∃ k, at_ ≤ k ∧ k ≤ (at_ + 7) / 8 * 8 ∧ m = (at_ + 7) / 8 * 8 - k ∧ Hd 19 [(0, ptr b)] env' ∧ BitR all dr k (s'.heap.get b) ∧ Keep [b] h c s') ((at_ + 7) / 8 * 8 - at_) ?_ ?_
  · exact ⟨at_, by omega, by omega, rfl, Ho U ⟨rfl, trivial⟩, hR, by simp, fun _ _ _ => rfl⟩
  rintro m _ ⟨h2, c2⟩ ⟨k, hk1, hk2, rfl, ⟨env, U, rfl⟩, hR2, hK⟩
  dsimp only at hR2
  obtain ⟨s, hb, q1, q2, q3, q4, q5⟩ := id hR2
  refine rS (sg 10 J (qM U J (qB U J J (nn36 _) (qM U J (qG U J J J J (qM U J (qG U J J J J (qN U J (qG U J J J J (qF U J fa123_2 (qG U J J J J (qL U J gA ((p3.1 _ _).trans J) ?_))))))))))))
  refine qG U J J J J (q_rem U rfl rfl ⟨by omega, by omega⟩ ?_)
  refine qG U J J J J (qB U J J J (qQ U J J J (if_pos J) (nK ?_)))
  refine rC U rfl (fun hlt => ?_) (fun hlt => ?_)
  · try simp only [dz, dy] at hlt
    refine rK (kN (rB (rg 8 J (qM U J (qN U J (qF U J fa123_2 (qL U J gA ((p3.1 _ _).trans J) ?_)))))))
    refine qP U J J wA ?_
    refine qN U J (qF U J fa123_2 (qW U rfl rfl gA p3 rfl rfl (by first | decide | (simp; done) | (simp; omega)) ?_))
    refine rN (kO (kN ?_))
    have hk3 : (k : Int) % 8 ≠ 0 := by simpa using hlt
    refine ⟨(at_ + 7) / 8 * 8 - (k + 1), by omega, k + 1, by omega, by omega, rfl, Ho U ⟨rfl, trivial⟩, ⟨s, ?_, q1, q2, by omega, by omega, q5⟩, Nat.le_trans hK.1 (by simp <;> omega), fun x hx hm => ?_⟩
    · simp [T.get_set]
    · simp only [T.get_set]; rw [if_neg (by simpa using hm)]; exact hK.2 x hx hm
  · try simp only [dz, dy] at hlt
    refine r_exit (kE (kE (kB (f_0 J (.inr J) ?_))))
    have hk3 : (k : Int) % 8 = 0 := by simpa using hlt
    have e : k = (at_ + 7) / 8 * 8 := by omega
    subst e
    exact ⟨hR2, Nat.le_trans hK.1 (by simp <;> omega), hK.2⟩
end
def idx : List Bool → Nat → List Nat
  | [], _ => []
  | true :: r, k => k :: idx r (k + 1)
  | false :: r, k => idx r (k + 1)
abbrev nv (n : Nat) : Value := .int .i64 n
theorem idx_append (a b : List Bool) (k : Nat) : idx (a ++ b) k = idx a k ++ idx b (k + a.length) := by
  induction a generalizing k with
  | nil => simp [idx]
  | cons t a ih => cases t <;> simp [idx, ih, Nat.add_comm, Nat.add_left_comm]
theorem idx_le (a : List Bool) (k : Nat) : (idx a k).length ≤ a.length := by
  induction a generalizing k with
  | nil => simp [idx]
  | cons t a ih => have := ih (k + 1); cases t <;> simp [idx] <;> omega
theorem num_append (a b : List Bool) : num (a ++ b) = num a * 2 ^ b.length + num b := by
  have : ∀ (b : List Bool) (v : Nat), b.foldl (fun v b => 2 * v + b.toNat) v = v * 2 ^ b.length + num b := by
    intro b
    induction b with
    | nil => intro v; simp [num]
    | cons t b ih =>
      intro v; simp only [List.foldl_cons, List.length_cons, num]; rw [ih, ih (2 * 0 + t.toNat), Nat.pow_succ]
      rw [Nat.add_mul, Nat.add_mul]; simp [Nat.mul_comm, Nat.mul_left_comm, Nat.add_assoc, Nat.mul_assoc]
  rw [num, List.foldl_append, this]; rfl
theorem num_bit {L : List Bool} {j : Nat} {t : Bool} (h : L[j]? = some t) : num L / 2 ^ (L.length - 1 - j) % 2 = t.toNat := by
  have hj : j < L.length := by rcases Nat.lt_or_ge j L.length with q | q; exact q; rw [List.getElem?_eq_none q] at h; cases h
  have e : num L = num (L.take (j + 1)) * 2 ^ (L.drop (j + 1)).length + num (L.drop (j + 1)) := by rw [← num_append, List.take_append_drop]
  have e2 : (L.drop (j + 1)).length = L.length - 1 - j := by rw [List.length_drop]; omega
  rw [e2] at e
  have hlt := num_lt (L.drop (j + 1)); rw [e2] at hlt
  have hp : 0 < 2 ^ (L.length - 1 - j) := Nat.two_pow_pos _
  rw [e, Nat.mul_comm, Nat.mul_add_div hp, Nat.div_eq_of_lt hlt, List.take_add_one, h]
  simp only [Option.toList_some, num_snoc]; cases t <;> simp <;> omega
theorem shrU {P : Program} {t : TypeId} (a : Nat) (j : Int) (h : 0 ≤ j ∧ j ≤ 32) : evBin P .shr t (.int .u32 a) (.int .i64 j) = some (.int .u32 ((a / 2 ^ j.toNat : Nat) : Int)) := by
  have h1 : ¬ j < 0 := by omega
  have h2 : min j.toNat IntKind.u32.bits = j.toNat := by simp [IntKind.bits]; omega
  simp only [evBin, if_neg h1, h2, fdiv_pow]
theorem and_oneU {P : Program} {t : TypeId} (m : Nat) (h : m < 2 ^ 32) : evBin P .and t (.int .u32 m) (.int .u32 1) = some (.int .u32 ((m % 2 : Nat) : Int)) := by
  have h3 : IntKind.u32.wrap ((BitVec.ofInt 32 (m : Int) &&& BitVec.ofInt 32 1).toNat) = ((m % 2 : Nat) : Int) := by
    have e1 : BitVec.ofInt 32 (m : Int) = BitVec.ofNat 32 m := rfl
    have e2 : BitVec.ofInt 32 (1 : Int) = BitVec.ofNat 32 1 := rfl
    have e3 : (BitVec.ofNat 32 m &&& BitVec.ofNat 32 1).toNat = m % 2 := by
      rw [BitVec.toNat_and, BitVec.toNat_ofNat, BitVec.toNat_ofNat, Nat.mod_eq_of_lt h]; exact Nat.and_one_is_mod m
    rw [e1, e2, e3]; exact wrapU32 (by omega) (by omega)
  simp only [evBin, if_true]; exact congrArg (fun z => some (Value.int .u32 z)) h3
theorem evIndexA {P : Program} {t len e j : Nat} {k : IntKind} {cs : Array Value} {v : Value} (ht : P.underlying t = some (.array len e)) (h1 : P1 P e) (hj : j < len) (hv : cs.toList[j]? = some v) : evIndex P t (.agg cs) (.int k j) = some v := by
  obtain ⟨hp, inf, h2, h3⟩ := h1
  have hj' : (0 : Int) ≤ j ∧ (j : Int) < len := by omega
  simp only [evIndex, ht, h2, hp, h3, if_pos hj']
  simpa using hv
abbrev bv (n : Nat) : Value := .int .u8 n
def txt (l : List Nat) : ByteArray := ⟨(l.map UInt8.ofNat).toArray⟩
theorem txt_cells {l : List Nat} (h : ∀ x ∈ l, x < 256) : (l.map UInt8.ofNat).map (fun b => Value.int .u8 b.toNat) = l.map bv := by
  rw [List.map_map]; apply List.map_congr_left; intro x hx
  have := h x hx
  simp [bv, UInt8.toNat_ofNat, Nat.mod_eq_of_lt this]
theorem idx_lt (a : List Bool) (k : Nat) : ∀ x ∈ idx a k, k ≤ x ∧ x < k + a.length := by
  induction a generalizing k with
  | nil => intro x hx; cases hx
  | cons t a ih =>
    intro x hx
    cases t with
    | true =>
      simp only [idx, List.mem_cons] at hx
      rcases hx with rfl | hx
      · simp
      · have := ih (k + 1) x hx; simp only [List.length_cons]; omega
    | false => simp only [idx] at hx; have := ih (k + 1) x hx; simp only [List.length_cons]; omega
section
variable {ov : OvT} (H : OvH ov)
include H
theorem marks_cr {h : Heap} {c : Nat} {L : List Bool} (hL : L.length = 16) :
    CR Tryz.prog ov 254 [.int .u32 (num L)] ⟨h, c⟩ (fun v st => ∃ a n cp, v = .slice a n cp ∧ SlR 3 1 ((idx L 0).map nv) a n cp st.heap.get ∧ (∀ z ∈ own a, c ≤ z ∧ z < st.ctr) ∧ Keep [] h c st) := by
  have hlt := num_lt L; rw [hL] at hlt
  refine e_1 Tryz.func254 rfl (H _ (by decide)) Tryz.ntmps254 (by decide) ?_
  intro env U
  refine sg 1 J (qA U J (nK (sg 1 J (qA U J (nK (rS (sg 1 J (qM U J (nK (rB ?_))))))))))
  refine rL (fun m env' s' => ∃ j, m = 16 - j ∧ j ≤ 16 ∧ ∃ a n cp, Hd 20 [(0, .int .u32 (num L)), (3, .slice a n cp), (5, iv j)] env' ∧ SlR 3 1 ((idx (L.take j) 0).map nv) a n cp s'.heap.get ∧ (∀ z ∈ own a, c ≤ z ∧ z < s'.ctr) ∧ Keep [] h c s') 16 ?_ ?_
  · exact ⟨0, rfl, by omega, none, 0, 0, Ho U ⟨rfl, rfl, rfl, trivial⟩, SlR.nil, by simp [own], by simp <;> omega, fun _ _ _ => rfl⟩
  rintro m _ ⟨h2, c2⟩ ⟨j, rfl, hj, a, n, cp, ⟨env, U, rfl⟩, hS, hO, hK⟩
  dsimp only at hS hO
  refine sg 1 J (qB U J J J (nK (rS ?_)))
  refine rC U rfl (fun hj2 => ?_) (fun hj2 => ?_)
  · try simp only [dz, dy] at hj2
    obtain ⟨t, ht⟩ : ∃ t, L[j]? = some t := ⟨_, List.getElem?_eq_getElem (by omega)⟩
    have hn : n ≤ 16 := by have := hS.len; simp at this; have h9 := idx_le (L.take j) 0; rw [List.length_take] at h9; omega
    refine rK (kN (rS (rB (sg 2 J (qM U J (qA U J (nK (sg 6 J (qM U J (qM U J (q_sub U J J wA ?_)))))))))))
    refine qB U rfl rfl (shrU _ _ ⟨by omega, by omega⟩) ?_
    refine qB U J J (and_oneU _ (Nat.lt_of_le_of_lt (Nat.div_le_self _ _) oA)) ?_
    refine qB U J J J (nK ?_)
    refine rC U rfl (fun ht2 => ?_) (fun ht2 => ?_)
    · try simp only [dz, dy] at ht2
      refine rg 5 J (qM U J (qM U J (q1_ U J a171 J (qX U rfl rfl a171 a171 (hS.move (fun z hz => by have := hO z hz; simp only [T.get_set]; rw [if_neg oA])) ((T.get_set _ _ _ _).trans (if_pos rfl)) rfl oA oA ?_))))
      intro a2 cp2 h3 hS2 hO2 hF2
      refine qA U J (rN (kO (kN (rg 2 J (qP U J J wA ?_)))))
      refine qM U J (nK ?_)
      have hb := num_bit ht
      rw [hL] at hb
      have e9 : (15 - (j : Int)).toNat = 16 - 1 - j := by omega
      rw [e9, hb] at ht2
      have htt : t = true := by cases t with | true => rfl | false => (simp at ht2)
      subst htt
      refine ⟨16 - (j + 1), by omega, j + 1, rfl, by omega, a2, n + 1, cp2, Ho U ⟨rfl, rfl, rfl, trivial⟩, ?_, fun z hz => by have := hO2 z hz; have := hK.1; dsimp only at *; omega, hK.app hF2 (fun z hz => .inl (hO z hz).1) oA oA oA⟩
      rw [List.take_add_one, ht, idx_append, List.map_append]; simpa [idx, Nat.min_eq_left hj, show min j 16 = j by omega, hL] using hS2
    · try simp only [dz, dy] at ht2
      refine rK (kO (kN (rg 2 J (qP U J J wA ?_))))
      refine qM U J (nK ?_)
      have hb := num_bit ht
      rw [hL] at hb
      have e9 : (15 - (j : Int)).toNat = 16 - 1 - j := by omega
      rw [e9, hb] at ht2
      have htt : t = false := by cases t with | false => rfl | true => (simp at ht2)
      subst htt
      refine ⟨16 - (j + 1), by omega, j + 1, rfl, by omega, a, n, cp, Ho U ⟨rfl, rfl, rfl, trivial⟩, ?_, fun z hz => by have := hO z hz; dsimp only at *; omega, hK.up oA⟩
      rw [List.take_add_one, ht, idx_append]; simpa [idx] using hS
  · try simp only [dz, dy] at hj2
    refine r_exit (kE (kE (kB (kN (sg 2 J (qM U J (qA U J (nK (rR (f_1 U J (.inl J) J ?_))))))))))
    have e : j = 16 := by omega
    subst e
    rw [List.take_of_length_le (by omega)] at hS
    exact ⟨a, n, cp, rfl, hS, fun z hz => by have := hO z hz; dsimp only at *; omega, hK.up (by omega)⟩
theorem listed_cr {h : Heap} {c : Nat} {bs : List Bool} (hL : bs.length = 256) :
    CR Tryz.prog ov 255 [.agg (bs.map Value.bool).toArray] ⟨h, c⟩ (fun v st => v = .string (txt (idx bs 0)) ∧ Keep [] h c st) := by
  refine e_1 Tryz.func255 rfl (H _ (by decide)) Tryz.ntmps255 (by decide) ?_
  intro env U
  refine sg 2 J (q_box U J (qA U J (nK (sg 1 J (qA U J (nK (rS (sg 2 J (qL U rfl (T.get_set _ _ _ _ |>.trans (if_pos rfl)) (by rw [p315.1, if_pos (by simp [Value.cells, hL])]; simp only [Value.cells, List.drop_zero]; rw [List.take_of_length_le (by simp [hL])]) (v := .agg (bs.map Value.bool).toArray) ?_)))))))))
  refine qM U J (nK (rB ?_))
  refine rL (fun m env' s' => ∃ j, m = 256 - j ∧ j ≤ 256 ∧ ∃ a n cp, Hd 20 [(6, .agg (bs.map Value.bool).toArray), (3, .slice a n cp), (7, iv j)] env' ∧ SlR 5 1 ((idx (bs.take j) 0).map bv) a n cp s'.heap.get ∧ (∀ z ∈ own a, c ≤ z ∧ z < s'.ctr) ∧ Keep [] h c s') 256 ?_ ?_
  · exact ⟨0, rfl, by omega, none, 0, 0, Ho U ⟨rfl, rfl, rfl, trivial⟩, SlR.nil, by simp [own], (Keep.refl (by omega)).set (.inl (by omega))⟩
  rintro m _ ⟨h2, c2⟩ ⟨j, rfl, hj, a, n, cp, ⟨env, U, rfl⟩, hS, hO, hK⟩
  dsimp only at hS hO
  refine sg 1 J (qB U J J J (nK (rS ?_)))
  refine rC U rfl (fun hj2 => ?_) (fun hj2 => ?_)
  · try simp only [dz, dy] at hj2
    obtain ⟨t, ht⟩ : ∃ t, bs[j]? = some t := ⟨_, List.getElem?_eq_getElem (by omega)⟩
    have hn : n ≤ 256 := by have := hS.len; simp at this; have h9 := idx_le (bs.take j) 0; rw [List.length_take] at h9; omega
    refine rK (kN (rS (rB (sg 4 J (qM U J (q_index U rfl rfl (evIndexA Tryz.underlying315 p4 oA (by simp [ht]; rfl)) ?_))))))
    refine qA U J (qA U J (nK (sg 1 J (qM U J (nK ?_)))))
    refine rC U rfl (fun ht2 => ?_) (fun ht2 => ?_)
    · try simp only [dz, dy] at ht2
      refine rg 6 J (qM U J (qM U J (qH U J Tryz.underlying3 Tryz.underlying5 wA ?_)))
      refine q1_ U J a102 J (qX U rfl rfl a102 a102 (hS.move (fun z hz => by have := hO z hz; simp only [T.get_set]; rw [if_neg oA])) ((T.get_set _ _ _ _).trans (if_pos rfl)) rfl oA oA ?_)
      intro a2 cp2 h3 hS2 hO2 hF2
      refine qA U J (rN (kO (kN (rg 2 J (qP U J J wA ?_)))))
      refine qM U J (nK ?_)
      subst ht2
      refine ⟨256 - (j + 1), by omega, j + 1, rfl, by omega, a2, n + 1, cp2, Ho U ⟨rfl, rfl, rfl, trivial⟩, ?_, fun z hz => by have := hO2 z hz; have := hK.1; dsimp only at *; omega, hK.app hF2 (fun z hz => .inl (hO z hz).1) oA oA oA⟩
      rw [List.take_add_one, ht, idx_append, List.map_append]; simpa [idx, Nat.min_eq_left hj, show min j 256 = j by omega, hL] using hS2
    · try simp only [dz, dy] at ht2
      refine rK (kO (kN (rg 2 J (qP U J J wA ?_))))
      refine qM U J (nK ?_)
      subst ht2
      refine ⟨256 - (j + 1), by omega, j + 1, rfl, by omega, a, n, cp, Ho U ⟨rfl, rfl, rfl, trivial⟩, ?_, fun z hz => by have := hO z hz; dsimp only at *; omega, hK.up oA⟩
      rw [List.take_add_one, ht, idx_append]; simpa [idx] using hS
  · try simp only [dz, dy] at hj2
    have e : j = 256 := by omega
    subst e
    rw [List.take_of_length_le (by omega)] at hS
    refine r_exit (kE (kE (kB (kN (sg 3 J (qM U J (qY U rfl Tryz.underlying102 Tryz.underlying9 Tryz.underlying5 (bs := (idx bs 0).map UInt8.ofNat) (by rw [txt_cells (fun x hx => by have := idx_lt bs 0 x hx; omega)]; exact hS) ?_)))))))
    refine qA U J (nK (rR (f_1 U J (.inl J) J ?_)))
    exact ⟨rfl, hK.up (by omega)⟩
end
def rowsR : List Nat → List Bool → Option (List Nat × Nat)
  | [], _ => some ([], 0)
  | i :: r, l => if l.length < 16 then none else (rowsR r (l.drop 16)).map fun p => (idx (l.take 16) (16 * i) ++ p.1, p.2 + 16)
def usedR (l : List Bool) : Except Nat (List Nat × Nat) :=
  if l.length < 16 then .error 3 else match rowsR (idx (l.take 16) 0) (l.drop 16) with
    | none => .error 3
    | some (s, n) => if s = [] then .error 25 else .ok (s, 16 + n)
theorem rowsR_snoc (a : List Nat) (i : Nat) : ∀ (l : List Bool) (s : List Nat) (n : Nat), rowsR a l = some (s, n) → rowsR (a ++ [i]) l = if l.length < n + 16 then none else some (s ++ idx ((l.drop n).take 16) (16 * i), n + 16) := by
  induction a with
  | nil =>
    intro l s n h
    simp only [rowsR, Option.some.injEq, Prod.mk.injEq] at h
    obtain ⟨rfl, rfl⟩ := h
    simp [rowsR]
  | cons j a ih =>
    intro l s n h
    simp only [rowsR] at h
    by_cases U : l.length < 16
    · rw [if_pos U] at h; cases h
    · rw [if_neg U] at h
      cases hr : rowsR a (l.drop 16) with
      | none => rw [hr] at h; cases h
      | some p =>
        obtain ⟨s', n'⟩ := p
        rw [hr] at h
        simp only [Option.map_some, Option.some.injEq, Prod.mk.injEq] at h
        obtain ⟨rfl, rfl⟩ := h
        have := ih _ _ _ hr
        simp only [List.cons_append, rowsR, if_neg U, this]
        rw [List.length_drop, List.drop_drop]
        by_cases q : l.length - 16 < n' + 16
        · rw [if_pos q, if_pos (by omega)]; rfl
        · rw [if_neg q, if_neg (by omega)]; simp [Nat.add_comm]
theorem rowsR_none (a b : List Nat) : ∀ (l : List Bool), rowsR a l = none → rowsR (a ++ b) l = none := by
  induction a with
  | nil => intro l h; cases h
  | cons j a ih =>
    intro l h
    simp only [rowsR, List.cons_append] at *
    by_cases U : l.length < 16
    · rw [if_pos U]
    · rw [if_neg U] at *
      cases hr : rowsR a (l.drop 16) with
      | none => rw [ih _ hr]; rfl
      | some p => rw [hr] at h; cases h
theorem rowsR_le (a : List Nat) : ∀ (l : List Bool) (s : List Nat) (n : Nat), rowsR a l = some (s, n) → n ≤ l.length ∧ n = 16 * a.length := by
  induction a with
  | nil => intro l s n h; simp only [rowsR, Option.some.injEq, Prod.mk.injEq] at h; obtain ⟨rfl, rfl⟩ := h; simp
  | cons j a ih =>
    intro l s n h
    simp only [rowsR] at h
    by_cases U : l.length < 16
    · rw [if_pos U] at h; cases h
    · rw [if_neg U] at h
      cases hr : rowsR a (l.drop 16) with
      | none => rw [hr] at h; cases h
      | some p =>
        obtain ⟨s', n'⟩ := p
        rw [hr] at h
        simp only [Option.map_some, Option.some.injEq, Prod.mk.injEq] at h
        obtain ⟨rfl, rfl⟩ := h
        have := ih _ _ _ hr
        rw [List.length_drop] at this; simp only [List.length_cons]; omega
def Asc : List Nat → Prop
  | [] => True
  | x :: r => (∀ y ∈ r, x < y) ∧ Asc r
theorem Asc.append {a b : List Nat} (ha : Asc a) (hb : Asc b) (h : ∀ x ∈ a, ∀ y ∈ b, x < y) : Asc (a ++ b) := by
  induction a with
  | nil => exact hb
  | cons x a ih =>
    refine ⟨fun y hy => ?_, ih ha.2 (fun z hz y hy => h z (by simp [hz]) y hy)⟩
    rcases List.mem_append.mp hy with q | q
    · exact ha.1 y q
    · exact h x (by simp) y q
theorem idx_asc (a : List Bool) (k : Nat) : Asc (idx a k) := by
  induction a generalizing k with
  | nil => trivial
  | cons t a ih =>
    cases t with
    | true => exact ⟨fun y hy => by have := idx_lt a (k + 1) y hy; omega, ih (k + 1)⟩
    | false => exact ih (k + 1)
theorem idx_mem (a : List Bool) (k x : Nat) : x ∈ idx a k ↔ k ≤ x ∧ a[x - k]? = some true := by
  induction a generalizing k with
  | nil => simp [idx]
  | cons t a ih =>
    have e : k ≠ x → k ≤ x → x - k = (x - (k + 1)) + 1 := fun h1 h2 => by omega
    cases t with
    | true =>
      simp only [idx, List.mem_cons, ih]
      constructor
      · rintro (rfl | ⟨h1, h2⟩)
        · simp
        · refine ⟨by omega, ?_⟩; rw [e oA oA, List.getElem?_cons_succ]; exact h2
      · rintro ⟨h1, h2⟩
        by_cases q : k = x
        · exact .inl q.symm
        · rw [e q h1, List.getElem?_cons_succ] at h2; exact .inr ⟨by omega, h2⟩
    | false =>
      simp only [idx, ih]
      constructor
      · rintro ⟨h1, h2⟩; refine ⟨by omega, ?_⟩; rw [e (by omega) (by omega), List.getElem?_cons_succ]; exact h2
      · rintro ⟨h1, h2⟩
        by_cases q : k = x
        · subst q; simp at h2
        · rw [e q h1, List.getElem?_cons_succ] at h2; exact ⟨by omega, h2⟩
theorem Asc.ext {a b : List Nat} (ha : Asc a) (hb : Asc b) (h : ∀ x, x ∈ a ↔ x ∈ b) : a = b := by
  induction a generalizing b with
  | nil => cases b with
    | nil => rfl
    | cons y b => have := (h y).mpr (by simp); cases this
  | cons x a ih =>
    cases b with
    | nil => have := (h x).mp (by simp); cases this
    | cons y b =>
      have hxy : x = y := by
        rcases List.mem_cons.mp ((h x).mp (by simp)) with q | q
        · exact q
        · rcases List.mem_cons.mp ((h y).mpr (by simp)) with r | r
          · exact r.symm
          · have h1 := hb.1 x q; have h2 := ha.1 y r; omega
      subst hxy
      rw [ih ha.2 hb.2 (fun z => ?_)]
      constructor
      · intro hz
        rcases List.mem_cons.mp ((h z).mp (by simp [hz])) with q | q
        · have := ha.1 z hz; omega
        · exact q
      · intro hz
        rcases List.mem_cons.mp ((h z).mpr (by simp [hz])) with q | q
        · have := hb.1 z hz; omega
        · exact q
theorem rowsR_asc (a : List Nat) (ha : Asc a) : ∀ (l : List Bool) (s : List Nat) (n : Nat), rowsR a l = some (s, n) → Asc s ∧ ∀ x ∈ s, ∃ i ∈ a, 16 * i ≤ x ∧ x < 16 * i + 16 := by
  induction a with
  | nil => intro l s n h; simp only [rowsR, Option.some.injEq, Prod.mk.injEq] at h; obtain ⟨rfl, rfl⟩ := h; exact ⟨trivial, by simp⟩
  | cons j a ih =>
    intro l s n h
    simp only [rowsR] at h
    by_cases U : l.length < 16
    · rw [if_pos U] at h; cases h
    · rw [if_neg U] at h
      cases hr : rowsR a (l.drop 16) with
      | none => rw [hr] at h; cases h
      | some p =>
        obtain ⟨s', n'⟩ := p
        rw [hr] at h
        simp only [Option.map_some, Option.some.injEq, Prod.mk.injEq] at h
        obtain ⟨rfl, rfl⟩ := h
        obtain ⟨h1, h2⟩ := ih ha.2 _ _ _ hr
        have hj : ∀ x ∈ idx (l.take 16) (16 * j), 16 * j ≤ x ∧ x < 16 * j + 16 := fun x hx => by
          have := idx_lt _ _ x hx; rw [List.length_take] at this; omega
        refine ⟨(idx_asc _ _).append h1 (fun x hx y hy => ?_), fun x hx => ?_⟩
        · obtain ⟨i, hi, h3, h4⟩ := h2 y hy
          have := ha.1 i hi; have := hj x hx; omega
        · rcases List.mem_append.mp hx with q | q
          · exact ⟨j, by simp, hj x q⟩
          · obtain ⟨i, hi, h3⟩ := h2 x q; exact ⟨i, by simp [hi], h3⟩
theorem z315 : Tryz.t315.zero = some (.agg (List.replicate 256 (.bool false)).toArray) := by kernel_rfl
theorem z315p : plain (.agg (List.replicate 256 (.bool false)).toArray) = true := by kernel_rfl
def Ther (s : List Nat) (nm : Nat) (h : Heap) : Prop := ∃ ts : List Bool, ts.length = 256 ∧ h.get nm = some ⟨ts.map Value.bool, 315, 0⟩ ∧ ∀ x, x < 256 → ts[x]? = some (decide (x ∈ s))
abbrev nostr : Value := .string ⟨#[]⟩
section
variable {ov : OvT} (H : OvH ov)
include H
omit H in
theorem _root_.Go.AE.Keep.base {W : List Nat} {h : Heap} {c c0 : Nat} {s : St} (k : Keep W h c s) (hc : c0 ≤ c) : Keep W h c0 s := ⟨Nat.le_trans hc k.1, fun x hx => k.2 x (Nat.lt_of_lt_of_le hx hc)⟩
omit H in
theorem idx_shift (a : List Bool) (k : Nat) : ∀ j, idx a (k + j) = (idx a j).map (k + ·) := by
  induction a with
  | nil => intro j; rfl
  | cons t a ih => intro j; cases t <;> simp [idx, ← ih, Nat.add_assoc]
theorem get_any {h : Heap} {c b dr at_ n : Nat} {all : List Bool} (hR : BitR all dr at_ (h.get b)) (hc : b < c) (hn : n ≤ 32) :
    CR Tryz.prog ov 151 [ptr b, iv n] ⟨h, c⟩ (fun v st => ∃ (e : Nat) (w : Nat), v = .tuple #[.int .u32 w, iv e] ∧ ((all.length < at_ + n ∧ e = 3 ∧ w = 0 ∧ BitR all dr at_ (st.heap.get b)) ∨ (at_ + n ≤ all.length ∧ e = 0 ∧ w = num ((all.drop at_).take n) ∧ BitR all dr (at_ + n) (st.heap.get b))) ∧ Keep [b] h c st) := by
  by_cases q : all.length < at_ + n
  · refine (get_short_cr H hR hc hn q).mono ?_
    rintro v ⟨h', c'⟩ ⟨rfl, rfl, hk⟩
    exact ⟨3, 0, rfl, .inl ⟨q, rfl, rfl, hR⟩, Keep.refl hk⟩
  · refine (get_cr H hR hc hn oA).mono ?_
    rintro v ⟨h', c'⟩ ⟨rfl, h1, h2⟩
    exact ⟨0, _, rfl, .inr ⟨by omega, rfl, rfl, h1⟩, h2⟩
theorem read_cr {h : Heap} {c b dr at_ : Nat} {all : List Bool} (hR : BitR all dr at_ (h.get b)) (hc : b < c) :
    CR Tryz.prog ov 238 [ptr b] ⟨h, c⟩ (fun v st => (match usedR (all.drop at_) with
      | .ok (s, n) => v = .tuple #[.string (txt s), iv 0] ∧ BitR all dr (at_ + n) (st.heap.get b)
      | .error e => v = .tuple #[nostr, iv e] ∧ ∃ k, at_ ≤ k ∧ BitR all dr k (st.heap.get b)) ∧ Keep [b] h c st) := by
  have hat : at_ ≤ all.length := by obtain ⟨s, hb, h1, h2, h3, h4, h5⟩ := hR; exact h4
  by_cases h16 : all.length < at_ + 16
  · skip
    refine e_1 Tryz.func238 rfl (H _ (by decide)) Tryz.ntmps238 (by decide) ?_
    intro env U
    refine sg 2 J (qA U J (qA U J (nK (sg 7 J (qM U J (qC U J (CR.mono (get_short_cr H hR oA oA h16 (n := 16)) ?_)))))))
    rintro v ⟨hh1, cc1⟩ ⟨rfl, rfl, hk⟩
    try dsimp only at hk
    refine qM U J (qE U J J (qE U J J (qA U J (qA U J (nK (rS (sg 2 J (qM U J (qB U J J J (nK (rT U J dA ?_)))))))))))
    refine sg 3 J (qM U J (qA U J (qA U J (nK (rR (kR (f_2 U J (.inl J) J J ?_)))))))
    have hu : usedR (all.drop at_) = .error 3 := by simp only [usedR]; rw [if_pos (by rw [List.length_drop]; omega)]
    rw [hu]
    exact ⟨⟨rfl, at_, Nat.le_refl _, hR⟩, Keep.refl (by omega)⟩
  · skip
    refine e_1 Tryz.func238 rfl (H _ (by decide)) Tryz.ntmps238 (by decide) ?_
    intro env U
    refine sg 2 J (qA U J (qA U J (nK (sg 7 J (qM U J (qC U J (CR.mono (get_cr H hR oA oA oA (n := 16)) ?_)))))))
    rintro v ⟨hh1, cc1⟩ ⟨rfl, hR1, hK1⟩
    refine qM U J (qE U J J (qE U J J (qA U J (qA U J (nK (rS (sg 2 J (qM U J (qB U J J J (nK (rF U J dA ?_)))))))))))
    refine rK (kN (sg 1 J (qZ i315 z315 z315p (nK (rS (sg 4 J (qM U J (qC U J (CR.mono (marks_cr H (by rw [List.length_take, List.length_drop]; omega)) ?_)))))))))
    rintro v ⟨hh2, cc2⟩ ⟨ma, mn, mcp, rfl, hMS, hMO, hMK⟩
    have hcc1 : c + 2 + 7 ≤ cc1 := hK1.1
    have hcc2 : cc1 + 2 + 1 + 4 ≤ cc2 := hMK.1
    refine q_lenL U J Tryz.underlying171 (qM U J (nK (rB ?_)))
    refine rL (fun m env' s' => ∃ q s n nT, m = (idx ((all.drop at_).take 16) 0).length - q ∧ q ≤ (idx ((all.drop at_).take 16) 0).length ∧ rowsR ((idx ((all.drop at_).take 16) 0).take q) (all.drop (at_ + 16)) = some (s, n) ∧ Hd 56 [(0, ptr b), (6, ptr nT), (23, .slice ma mn mcp), (24, iv mn), (25, iv q)] env' ∧ SlR 3 1 ((idx ((all.drop at_).take 16) 0).map nv) ma mn mcp s'.heap.get ∧ (∀ z ∈ own ma, c ≤ z ∧ z ≠ nT ∧ z < s'.ctr) ∧ BitR all dr (at_ + 16 + n) (s'.heap.get b) ∧ Ther s nT s'.heap ∧ c ≤ nT ∧ nT < s'.ctr ∧ Keep [b] h c s') (idx ((all.drop at_).take 16) 0).length ?_ ?_
    · refine ⟨0, [], 0, cc1 + 2 + 0, rfl, Nat.zero_le _, rfl, Ho U ⟨rfl, rfl, rfl, rfl, rfl, trivial⟩, hMS, fun z hz => by have := hMO z hz; dsimp only at *; omega, ?_, ⟨List.replicate 256 false, by simp, ?_, fun x hx => by rw [List.getElem?_replicate, if_pos hx]; simp⟩, by omega, by dsimp only; omega, ?_⟩
      · have e1 := hMK.2 b (by omega) (by simp)
        rw [T.get_set, if_neg (by omega)] at e1
        rw [e1]; exact hR1
      · have e1 := hMK.2 (cc1 + 2 + 0) (by omega) (by simp)
        rw [T.get_set, if_pos rfl] at e1
        rw [e1]; simp [Value.cells]
      · exact ((hK1.up (c3 := cc1 + 2 + 1 + 4) (by omega)).set (.inl (by omega))).call hMK (by simp) |>.base (by omega)
    rintro m _ ⟨h2, c2⟩ ⟨q, s, n, nT, rfl, hq, hrows, ⟨env, U, rfl⟩, hS, hO, hR2, ⟨ts, hts, hT, hmem⟩, hcT, hT2, hK⟩
    dsimp only at hS hO hR2 hT hT2
    have hcc : c ≤ c2 := hK.1
    have hmn : mn = (idx ((all.drop at_).take 16) 0).length := by have := hMS.len; simpa using this.symm
    have hmn16 := idx_le ((all.drop at_).take 16) 0
    rw [List.length_take] at hmn16
    refine sg 1 J (qB U J J J (nK (rS ?_)))
    refine rC U rfl (fun hq2 => ?_) (fun hq2 => ?_)
    · try simp only [dz, dy] at hq2
      obtain ⟨mb, rfl, rfl, hmb⟩ := hS.pos (by omega)
      obtain ⟨i, hi⟩ : ∃ i, (idx ((all.drop at_).take 16) 0)[q]? = some i := ⟨_, List.getElem?_eq_getElem (by omega)⟩
      have hi16 : i < 16 := by have := idx_lt _ _ i (List.mem_of_getElem? hi); rw [List.length_take] at this; omega
      refine rK (kN (rS (rB (sg 3 J (qI U rfl rfl e171 ⟨by omega, by omega⟩ ?_)))))
      refine qL U rfl aA ((p3.1 _ _).trans (by simp [hi])) (v := iv i) ?_
      refine qA U J (nK (sg 7 J (qM U J (qC U J (CR.mono ((get_any H hR2 oA oA (n := 16))) ?_)))))
      rintro v ⟨hh3, cc3⟩ ⟨e9, w9, rfl, hG, hGK⟩
      have hcc3 : c2 + 1 + 3 + 7 ≤ cc3 := hGK.1
      have hKG := (hK.up (c3 := c2 + 1 + 3 + 7) (by omega)).call hGK (fun x hx => .inr hx)
      refine qM U J (qE U J J (qE U J J (qA U J (qA U J (nK (rS (sg 2 J (qM U J (qB U J J J (nK ?_))))))))))
      refine rC U rfl (fun he => ?_) (fun he => ?_)
      · try simp only [dz, dy] at he
        refine sg 3 J (qM U J (qA U J (qA U J (nK (rR (kR (k_bloR (kR (kR (k_bloR (kR (f_2 U J (.inl J) J J ?_))))))))))))
        rcases hG with ⟨hlt, rfl, _, hR4⟩ | ⟨_, rfl, _, _⟩
        · have hr := rowsR_snoc _ i _ _ _ hrows
          rw [List.length_drop, if_pos (by omega)] at hr
          have hr2 := rowsR_none _ ((idx ((all.drop at_).take 16) 0).drop (q + 1)) _ hr
          have e1 : (idx ((all.drop at_).take 16) 0).take q ++ [i] = (idx ((all.drop at_).take 16) 0).take (q + 1) := by have := List.take_add_one (l := (idx ((all.drop at_).take 16) 0)) (i := q); rw [hi] at this; exact this.symm
          rw [e1, List.take_append_drop] at hr2
          have hu : usedR (all.drop at_) = .error 3 := by simp only [usedR]; rw [if_neg (by rw [List.length_drop]; omega), List.drop_drop, hr2]
          rw [hu]
          exact ⟨⟨rfl, _, by omega, hR4⟩, hKG.up (by omega)⟩
        · simp at he
      · try simp only [dz, dy] at he
        rcases hG with ⟨_, rfl, _, _⟩ | ⟨hle, _, rfl, hR4⟩
        · simp at he
        refine rK (kN (sg 4 J (qM U J (qC U J (CR.mono (marks_cr H (by rw [List.length_take, List.length_drop]; omega)) ?_)))))
        rintro v ⟨hh4, cc4⟩ ⟨ka, kn, kcp, rfl, hKS, hKO, hKK⟩
        refine q_lenL U J Tryz.underlying171 (qM U J (nK (rB ?_)))
        refine rL (fun m env' s' => ∃ p, m = (idx ((all.drop (at_ + 16 + n)).take 16) 0).length - p ∧ p ≤ (idx ((all.drop (at_ + 16 + n)).take 16) 0).length ∧ Hd 56 [(0, ptr b), (6, ptr nT), (8, iv i), (23, .slice (some ⟨mb, 0, none⟩) mn 1), (24, iv mn), (25, iv q), (38, .slice ka kn kcp), (39, iv kn), (40, iv p)] env' ∧ SlR 3 1 ((idx ((all.drop at_).take 16) 0).map nv) (some ⟨mb, 0, none⟩) mn 1 s'.heap.get ∧ SlR 3 1 ((idx ((all.drop (at_ + 16 + n)).take 16) 0).map nv) ka kn kcp s'.heap.get ∧ (∀ z ∈ own ka, c2 ≤ z ∧ z < s'.ctr) ∧ BitR all dr (at_ + 16 + n + 16) (s'.heap.get b) ∧ Ther (s ++ ((idx ((all.drop (at_ + 16 + n)).take 16) 0).take p).map (16 * i + ·)) nT s'.heap ∧ c2 ≤ s'.ctr ∧ Keep [b] h c s') (idx ((all.drop (at_ + 16 + n)).take 16) 0).length ?_ ?_
        · have hcc4 : cc3 + 2 + 4 ≤ cc4 := hKK.1
          have hmv : ∀ z, c ≤ z → z < c2 → hh4.get z = h2.get z := fun z h1 h2' => (hKK.2 z (by omega) (by simp)).trans (hGK.2 z (by omega) (by simp; omega))
          refine ⟨0, rfl, Nat.zero_le _, Ho U ⟨rfl, rfl, rfl, rfl, rfl, rfl, rfl, rfl, rfl, trivial⟩, hS.move (fun z hz => hmv z (hO z hz).1 (hO z hz).2.2), hKS, fun z hz => by have := hKO z hz; dsimp only at *; omega, ?_, ⟨ts, hts, (hmv nT hcT hT2).trans hT, by simpa using hmem⟩, by dsimp only; omega, ((hKG.up (c3 := cc3 + 2 + 4) oA).call hKK (by simp)).up oA⟩
          dsimp only; rw [hKK.2 b (by omega) (by simp)]; exact hR4
        rintro m _ ⟨h3, c3⟩ ⟨p, rfl, hp0, ⟨env, U, rfl⟩, hS3, hK3, hO3, hR5, ⟨ts3, hts3, hT3, hmem3⟩, hc3, hKK3⟩
        dsimp only at hS3 hK3 hO3 hR5 hT3 hc3
        have hkn : kn = (idx ((all.drop (at_ + 16 + n)).take 16) 0).length := by have := hK3.len; simpa using this.symm
        have hkn16 := idx_le ((all.drop (at_ + 16 + n)).take 16) 0
        rw [List.length_take] at hkn16
        refine sg 1 J (qB U J J J (nK (rS ?_)))
        refine rC U rfl (fun hp => ?_) (fun hp => ?_)
        · try simp only [dz, dy] at hp
          obtain ⟨kb, rfl, rfl, hkb⟩ := hK3.pos (by omega)
          obtain ⟨k, hk⟩ : ∃ k, (idx ((all.drop (at_ + 16 + n)).take 16) 0)[p]? = some k := ⟨_, List.getElem?_eq_getElem (by omega)⟩
          have hk16 : k < 16 := by have := idx_lt _ _ k (List.mem_of_getElem? hk); rw [List.length_take] at this; omega
          refine rK (kN (rS (rB (sg 3 J (qI U rfl rfl e171 ⟨by omega, by omega⟩ ?_)))))
          refine qL U rfl aA ((p3.1 _ _).trans (by simp [hk])) (v := iv k) ?_
          refine qA U J (nK (rg 6 J (qM U J (q_mul U J J wA ?_))))
          refine qM U J (qP U J J wA ?_)
          refine q_indexAddrA U rfl rfl Tryz.underlying315 i4 s4 ⟨by omega, by omega⟩ ?_
          refine qW U rfl rfl aA p4 rfl rfl (by simp [hts3]; omega) ?_
          refine rN (kO (kN (rg 2 J (qP U J J wA ?_))))
          refine qM U J (nK ?_)
          refine ⟨(idx ((all.drop (at_ + 16 + n)).take 16) 0).length - (p + 1), by omega, p + 1, rfl, by omega, Ho U ⟨rfl, rfl, rfl, rfl, rfl, rfl, rfl, rfl, rfl, trivial⟩, hS3.move (fun z hz => by have := hO z hz; dsimp only; rw [T.get_set, if_neg oA]), hK3.move (fun z hz => by have := hO3 z hz; dsimp only; rw [T.get_set, if_neg oA]), fun z hz => by have := hO3 z hz; dsimp only; omega, ?_, ⟨ts3.set (16 * i + k) true, by simp [hts3], ?_, fun x hx => ?_⟩, by dsimp only; omega, (hKK3.up oA).set (.inl hcT)⟩
          · dsimp only; rw [T.get_set, if_neg (by omega)]; exact hR5
          · dsimp only; have e : 0 + (16 * (i : Int) + (k : Int)).toNat * 1 = 16 * i + k := by omega
            rw [T.get_set, if_pos rfl, e, List.map_set]
          · rw [List.take_add_one, hk, List.map_append, List.getElem?_set]
            split
            · rename_i e; subst e; simp [hts3, hx]
            · rename_i e; rw [hmem3 x hx]; have q1 : x ≠ 16 * i + k := by omega
              simp [q1]
        · try simp only [dz, dy] at hp
          refine r_exit (kE (kE (kB (kO (kN (rg 2 J (qP U J J wA ?_)))))))
          refine qM U J (nK ?_)
          have hr := rowsR_snoc _ i _ _ _ hrows
          rw [List.length_drop, if_neg (by omega), List.drop_drop, show 16 * i = 16 * i + 0 from rfl, idx_shift _ (16 * i) 0] at hr
          refine ⟨(idx ((all.drop at_).take 16) 0).length - (q + 1), by omega, q + 1, _, n + 16, nT, rfl, by omega, by rw [List.take_add_one, hi]; exact hr, Ho U ⟨rfl, rfl, rfl, rfl, rfl, trivial⟩, hS3, fun z hz => by have := hO z hz; dsimp only; omega, hR5, ⟨ts3, hts3, hT3, ?_⟩, hcT, by dsimp only; omega, hKK3.up oA⟩
          rw [List.take_of_length_le (by omega)] at hmem3; exact hmem3
    · try simp only [dz, dy] at hq2
      refine r_exit (kE (kE (kB (kN (sg 3 J ?_)))))
      rw [List.take_of_length_le (by omega)] at hrows
      have hasc := rowsR_asc _ (idx_asc _ _) _ _ _ hrows
      have hs256 : ∀ x ∈ s, x < 256 := fun x hx => by obtain ⟨i, h1, h2, h3⟩ := hasc.2 x hx; have := idx_lt _ _ i h1; rw [List.length_take] at this; omega
      have hids : idx ts 0 = s := by
        refine (idx_asc _ _).ext hasc.1 (fun x => ?_)
        rw [idx_mem]
        constructor
        · rintro ⟨_, h9⟩
          rw [Nat.sub_zero] at h9
          have hx : x < 256 := by
            rcases Nat.lt_or_ge x 256 with q9 | q9
            · exact q9
            · rw [List.getElem?_eq_none (by omega)] at h9; cases h9
          rw [hmem x hx] at h9; simpa using h9
        · intro h9
          refine ⟨Nat.zero_le _, ?_⟩
          rw [Nat.sub_zero, hmem x (hs256 x h9)]; simpa using h9
      refine qL U rfl aA (by rw [p315.1, if_pos (by simp [hts])]; simp only [List.drop_zero]; rw [List.take_of_length_le (by simp [hts])]) (v := .agg (ts.map Value.bool).toArray) ?_
      refine qC U J (CR.mono (listed_cr H hts) ?_)
      rintro v ⟨hh5, cc5⟩ ⟨rfl, hLK⟩
      refine qA U J (nK (rS (sg 2 J (qM U J (qB U J J J (nK ?_))))))
      refine rC U rfl (fun hs => ?_) (fun hs => ?_)
      · try simp only [dz, dy] at hs
        refine sg 2 J (qA U J (qA U J (nK (rR (kR (f_2 U J (.inl J) J J ?_))))))
        have hs0 : s = [] := by simpa [hids, txt, Go.ByteArray.toList_eq] using hs
        have hu : usedR (all.drop at_) = .error 25 := by simp only [usedR]; rw [if_neg (by rw [List.length_drop]; omega), List.drop_drop, hrows]; simp [hs0]
        have e := hLK.2 b (by omega) (by simp)
        rw [hu]
        exact ⟨⟨rfl, at_ + 16 + n, by omega, by dsimp only; rw [e]; exact hR2⟩, ((hK.up (by omega)).call hLK (by simp)).up (by omega)⟩
      · try simp only [dz, dy] at hs
        refine rK (kN (sg 3 J (qM U J (qA U J (qA U J (nK (rR (f_2 U J (.inl J) J J ?_))))))))
        have hs0 : s ≠ [] := by simpa [hids, txt, Go.ByteArray.toList_eq] using hs
        have hu : usedR (all.drop at_) = .ok (s, 16 + n) := by simp only [usedR]; rw [if_neg (by rw [List.length_drop]; omega), List.drop_drop, hrows]; simp [hs0]
        have e := hLK.2 b (by omega) (by simp)
        rw [hu, hids]
        exact ⟨⟨rfl, by dsimp only; rw [e, ← Nat.add_assoc]; exact hR2⟩, ((hK.up (by omega)).call hLK (by simp)).up (by omega)⟩
end
theorem usedR_err {l : List Bool} {e : Nat} (h : usedR l = .error e) : e = 3 ∨ e = 25 := by
  simp only [usedR] at h
  split at h
  · cases h; exact .inl rfl
  · split at h
    · cases h; exact .inl rfl
    · split at h
      · cases h; exact .inr rfl
      · cases h
section
variable {ov : OvT} (H : OvH ov)
include H
theorem usedRead_cr {h : Heap} {c b dr at_ : Nat} {all : List Bool} (hR : BitR all dr at_ (h.get b)) (hc : b < c) :
    CR Tryz.prog ov 223 [ptr b] ⟨h, c⟩ (fun v st => (match usedR (all.drop at_) with
      | .ok (s, n) => v = .tuple #[.string (txt s), iv 0] ∧ BitR all dr (at_ + n) (st.heap.get b)
      | .error e => v = .tuple #[nostr, iv e] ∧ BitR all dr at_ (st.heap.get b)) ∧ Keep [b] h c st) := by
  have hat : at_ ≤ all.length ∧ 8 * dr ≤ at_ := by obtain ⟨s, hb, h1, h2, h3, h4, h5⟩ := hR; exact ⟨h4, h3⟩
  cases hu : usedR (all.drop at_) with
  | ok p =>
    obtain ⟨s, n⟩ := p
    have hrd := fun c' (hc : b < c') => read_cr H (c := c') hR hc
    simp only [hu] at hrd
    refine e_1 Tryz.func223 rfl (H _ (by decide)) Tryz.ntmps223 (by decide) ?_
    intro env U
    refine sg 2 J (qA U J (qA U J (nK (sg 3 J (qM U J (qC U J (CR.mono (at_cr H hR) ?_)))))))
    rintro v ⟨hh1, cc1⟩ ⟨rfl, rfl, hk⟩
    try dsimp only at hk
    refine qA U J (nK (sg 7 J (qM U J (qC U J (CR.mono (hrd _ oA) ?_)))))
    rintro v ⟨hh2, cc2⟩ ⟨⟨rfl, hR2⟩, hK⟩
    refine qM U J (qE U J J (qE U J J (qA U J (qA U J (nK (rS (sg 2 J (qM U J (qB U J J J (nK (rF U J dA ?_)))))))))))
    refine rK (kN (sg 4 J (qM U J (qM U J (qA U J (qA U J (nK (rR (f_2 U J (.inl J) J J ?_)))))))))
    exact ⟨⟨rfl, hR2⟩, (hK.base (by omega)).up (by omega)⟩
  | error e =>
    have hrd := fun c' (hc : b < c') => read_cr H (c := c') hR hc
    simp only [hu] at hrd
    have he := usedR_err hu
    refine e_1 Tryz.func223 rfl (H _ (by decide)) Tryz.ntmps223 (by decide) ?_
    intro env U
    refine sg 2 J (qA U J (qA U J (nK (sg 3 J (qM U J (qC U J (CR.mono (at_cr H hR) ?_)))))))
    rintro v ⟨hh1, cc1⟩ ⟨rfl, rfl, hk⟩
    try dsimp only at hk
    refine qA U J (nK (sg 7 J (qM U J (qC U J (CR.mono (hrd _ oA) ?_)))))
    rintro v ⟨hh2, cc2⟩ ⟨⟨rfl, k, hk, hR2⟩, hK⟩
    try dsimp only at hk
    refine qM U J (qE U J J (qE U J J (qA U J (qA U J (nK (rS (sg 2 J (qM U J (qB U J J J (nK (rT U rfl (by rcases he with rfl | rfl <;> rfl) ?_)))))))))))
    refine rg 3 J (qM U J (qM U J (qC U J (CR.mono (seek_cr H hR2 hat.2 hat.1) ?_))))
    rintro v ⟨hh3, cc3⟩ ⟨rfl, hR3, hK3⟩
    refine nK (sg 4 J (qM U J (qM U J (qA U J (qA U J (nK (rR (f_2 U J (.inl J) J J ?_))))))))
    exact ⟨⟨rfl, hR3⟩, (((hK.base (by omega)).up (by have := hK.1; dsimp only at *; omega)).call hK3 (fun x hx => .inr hx)).up (by omega)⟩
end
inductive Runs {S : Type} (step : S → List Bool → Except Nat (S × Nat)) (fin : S → List Bool → Bool) (l : List Bool) : S → Nat → Except Nat (S × Nat) → Prop where
  | stop {s : S} {n : Nat} (h : fin s (l.drop n) = true) : Runs step fin l s n (.ok (s, n))
  | fail {s : S} {n e : Nat} (h : fin s (l.drop n) = false) (k : step s (l.drop n) = .error e) : Runs step fin l s n (.error e)
  | more {s s' : S} {n k : Nat} {r : Except Nat (S × Nat)} (h : fin s (l.drop n) = false) (q : step s (l.drop n) = .ok (s', k)) (m : Runs step fin l s' (n + k) r) : Runs step fin l s n r
theorem Runs.det {S : Type} {step : S → List Bool → Except Nat (S × Nat)} {fin : S → List Bool → Bool} {l : List Bool} {s : S} {n : Nat} {r r' : Except Nat (S × Nat)} (a : Runs step fin l s n r) (b : Runs step fin l s n r') : r = r' := by
  induction a with
  | stop h => cases b with
    | stop h' => rfl
    | fail h' k' => rw [h] at h'; cases h'
    | more h' q' m' => rw [h] at h'; cases h'
  | fail h k => cases b with
    | stop h' => rw [h] at h'; cases h'
    | fail h' k' => rw [k] at k'; cases k'; rfl
    | more h' q' m' => rw [k] at q'; cases q'
  | more h q m ih => cases b with
    | stop h' => rw [h] at h'; cases h'
    | fail h' k' => rw [q] at k'; cases k'
    | more h' q' m' => rw [q] at q'; cases q'; exact ih m'
structure Pk where
  t : Nat
  count : Nat
  order : List Nat
  picks : List Nat
def ones : List Bool → Nat
  | true :: r => ones r + 1
  | _ => 0
def moved (o : List Nat) (i : Nat) : List Nat := o.getD i 0 :: o.eraseIdx i
def Pk.none : Pk := ⟨0, 0, [0, 1, 2, 3, 4, 5], []⟩
def Pk.done (p : Pk) : Bool := 0 < p.count && p.picks.length == p.count
def Pk.head (p : Pk) (l : List Bool) : Except Nat (Pk × Nat) :=
  if l.length < 18 then .error 3 else
    if num (l.take 3) < 2 ∨ 6 < num (l.take 3) ∨ num ((l.drop 3).take 15) = 0 then .error 25
    else .ok ({ p with t := num (l.take 3), count := num ((l.drop 3).take 15) }, 18)
def Pk.pick (p : Pk) (l : List Bool) : Except Nat (Pk × Nat) :=
  if ones (l.take p.t) = p.t then .error 25 else if ones (l.take p.t) = l.length then .error 3
  else .ok ({ p with order := moved p.order (ones (l.take p.t)), picks := p.picks ++ [p.order.getD (ones (l.take p.t)) 0] }, ones (l.take p.t) + 1)
def Pk.step (p : Pk) (l : List Bool) : Except Nat (Pk × Nat) := if p.count = 0 then p.head l else p.pick l
def Pk.good (p : Pk) : Prop := p.order.length = 6 ∧ (∀ x ∈ p.order, x < 6) ∧ p.t ≤ 6 ∧ p.count < 32768 ∧ p.picks.length ≤ p.count ∧ (∀ x ∈ p.picks, x < p.t) ∧ (∀ i, i < p.t → p.order.getD i 0 < p.t) ∧ (p.count = 0 → p.order = [0, 1, 2, 3, 4, 5])
structure De where
  size : Nat
  now : Nat
  lens : List Nat
def De.done (d : De) : Bool := d.lens.length == d.size
def De.step (d : De) (l : List Bool) : Except Nat (De × Nat) :=
  if d.now = 0 then
    if l.length < 5 then .error 3 else if num (l.take 5) < 1 ∨ 20 < num (l.take 5) then .error 22 else .ok ({ d with now := num (l.take 5) }, 5)
  else match l with
    | [] => .error 3
    | false :: _ => .ok ({ d with lens := d.lens ++ [d.now] }, 1)
    | [true] => .error 3
    | true :: false :: _ => if d.now + 1 = 21 then .error 22 else .ok ({ d with now := d.now + 1 }, 2)
    | true :: true :: _ => if d.now = 1 then .error 22 else .ok ({ d with now := d.now - 1 }, 2)
def De.good (d : De) : Prop := 3 ≤ d.size ∧ d.size ≤ 258 ∧ d.now ≤ 20 ∧ d.lens.length ≤ d.size ∧ ∀ x ∈ d.lens, 1 ≤ x ∧ x ≤ 20
def share (l : List Nat) : Nat := (l.map fun x => 2 ^ (20 - x)).sum
def whole (l : List Nat) : Bool := share l == 2 ^ 20
def those (l : List Nat) (n : Nat) : List Nat := idx (l.map (· == n)) 0
def firstC (l : List Nat) : Nat → Nat
  | 0 => 0
  | n + 1 => 2 * (firstC l n + (those l n).length)
def fromC (l : List Nat) : Nat → Nat
  | 0 => 0
  | n + 1 => fromC l n + (those l n).length
def ordC (l : List Nat) : List Nat := (List.range 21).flatMap (those l)
def getC (l : List Nat) : Nat → Nat → List Bool → Except Nat (Nat × Nat)
  | n, _, [] => if 20 < n then .error 22 else .error 3
  | n, v, b :: r => if 20 < n then .error 22 else
      if 2 * v + b.toNat < firstC l n + (those l n).length then .ok ((those l n).getD (2 * v + b.toNat - firstC l n) 0, n) else getC l (n + 1) (2 * v + b.toNat) r
structure Co where
  size : Nat
  pk : Pk
  de : De
  tabs : List (List Nat)
  out : List Nat
  done : Bool
def Co.new (size : Nat) : Co := ⟨size, Pk.none, ⟨size, 0, []⟩, [], [], false⟩
def Co.took (c : Co) : List Nat := if c.pk.done then c.pk.picks else []
def Co.step (c : Co) (l : List Bool) : Except Nat (Co × Option Nat × Nat) :=
  if !c.pk.done then (c.pk.step l).map fun p => ({ c with pk := p.1 }, none, p.2)
  else if c.tabs.length < c.pk.t then match c.de.step l with
    | .error e => .error e
    | .ok (d, n) => if !d.done then .ok ({ c with de := d }, none, n) else if !whole d.lens then .error 22 else .ok ({ c with de := ⟨c.size, 0, []⟩, tabs := c.tabs ++ [d.lens] }, none, n)
  else if c.pk.picks.length ≤ c.out.length / 50 then .error 25
  else (getC (c.tabs.getD (c.pk.picks.getD (c.out.length / 50) 0) []) 1 0 l).map fun p => ({ c with out := c.out ++ [p.1], done := p.1 + 1 == c.size }, some p.1, p.2)
structure Ze where
  n : Nat
  most : Nat
  told : Nat
  zeros : Nat
  weight : Nat
  done : Bool
def Ze.new (n most : Nat) : Ze := ⟨n, most, 0, 0, 1, false⟩
def Ze.put (z : Ze) (code : Nat) : Except Nat (Ze × Nat × Nat) :=
  if code < 2 then if z.most < z.told + z.zeros + z.weight * (code + 1) then .error 2 else .ok ({ z with zeros := z.zeros + z.weight * (code + 1), weight := 2 * z.weight }, 0, 0)
  else if code = z.n + 1 then .ok ({ z with told := z.told + z.zeros, zeros := 0, weight := 1, done := true }, z.zeros, 0)
  else if z.told + z.zeros = z.most then .error 2
  else .ok ({ z with told := z.told + z.zeros + 1, zeros := 0, weight := 1 }, z.zeros, code - 1)
structure Rw where
  co : Co
  ze : Ze
  list : List Nat
  due : Nat
  place : Nat
def Rw.new (s : List Nat) (room : Nat) : Rw := ⟨Co.new (s.length + 2), Ze.new s.length room, s, 0, 0⟩
def Rw.waits (x : Rw) : Bool := 0 < x.due || 0 < x.place
def Rw.at_ (x : Rw) : Nat := if 0 < x.due then 0 else x.place
def Rw.next (x : Rw) : Rw := if 0 < x.due then { x with due := x.due - 1, list := moved x.list 0 } else { x with place := 0, list := moved x.list x.place }
def Rw.step (x : Rw) (l : List Bool) : Except Nat (Rw × Nat) := match x.co.step l with
  | .error e => .error e
  | .ok (c, none, n) => .ok ({ x with co := c }, n)
  | .ok (c, some s, n) => match x.ze.put s with
    | .error _ => .error 25
    | .ok (z, d, p) => .ok ({ x with co := c, ze := z, due := d, place := p }, n)
structure Bl where
  room : Nat
  head : Bool
  sum : Nat
  from_ : Nat
  last : List Nat
  row : Option Rw
  done : Bool
def Bl.new (room : Nat) : Bl := ⟨room, false, 0, 0, [], none, false⟩
def Bl.go (b : Bl) (l : List Bool) : Except Nat (Bl × Nat) :=
  if !b.head then if l.length < 57 then .error 3 else if (l.drop 32).take 1 = [true] then .error 25
    else .ok ({ b with head := true, sum := num (l.take 32), from_ := num ((l.drop 33).take 24) }, 57)
  else match b.row with
    | none => (usedR l).map fun p => ({ b with row := some (Rw.new p.1 b.room) }, p.2)
    | some x => if x.waits then .ok ({ b with last := b.last ++ [x.list.getD x.at_ 0], row := some x.next }, 0)
      else (x.step l).map fun p => ({ b with row := some p.1 }, p.2)
def Bl.fin (b : Bl) : Except Nat Bl := match b.row with
  | none => .ok b
  | some x => if !x.co.done || x.waits then .ok b else if b.last.length ≤ b.from_ then .error 23 else .ok { b with done := true }
def Bl.step (b : Bl) (l : List Bool) : Except Nat (Bl × Nat) := match b.go l with
  | .error e => .error e
  | .ok (b, n) => b.fin.map fun b => (b, n)
theorem arr_get {A B : List Value} {o : List Nat} {i : Nat} (h : i < o.length) : (A ++ o.map nv ++ B)[A.length + i]? = some (nv (o.getD i 0)) := by
  rw [List.append_assoc, List.getElem?_append_right (by omega), Nat.add_sub_cancel_left, List.getElem?_append_left (by simpa using h), List.getElem?_map, List.getD_eq_getElem?_getD]
  rw [List.getElem?_eq_getElem h]; rfl
theorem arr_set {A B : List Value} {o : List Nat} {i x : Nat} (h : i < o.length) : (A ++ o.map nv ++ B).set (A.length + i) (nv x) = A ++ (o.set i x).map nv ++ B := by
  rw [List.append_assoc, List.set_append_right _ _ (by omega), Nat.add_sub_cancel_left, List.set_append_left _ _ (by simpa using h), List.map_set, List.append_assoc]
def tl (o : List Nat) (i k : Nat) : List Nat := o.take (k + 1) ++ (o.drop k).take (i - k) ++ o.drop (i + 1)
theorem tl_get {o : List Nat} {i k : Nat} (hi : i < o.length) (hk : k ≤ i) (j : Nat) : (tl o i k)[j]? = if j ≤ k then o[j]? else if j ≤ i then o[j - 1]? else o[j]? := by
  simp only [tl, List.getElem?_append, List.length_append, List.length_take, List.length_drop, List.getElem?_take, List.getElem?_drop]
  repeat' split
  all_goals first | omega | rfl | (congr 1; omega) | skip
theorem tl_i {o : List Nat} {i : Nat} (hi : i < o.length) : tl o i i = o := by
  apply List.ext_getElem?; intro j; rw [tl_get hi (Nat.le_refl _)]; repeat' split
  all_goals first | rfl | omega
theorem tl_len {o : List Nat} {i k : Nat} (hi : i < o.length) (hk : k ≤ i) : (tl o i k).length = o.length := by
  simp only [tl, List.length_append, List.length_take, List.length_drop]; omega
theorem tl_set {o : List Nat} {i k : Nat} (hi : i < o.length) (hk : k + 1 ≤ i) : (tl o i (k + 1)).set (k + 1) ((tl o i (k + 1)).getD k 0) = tl o i k := by
  apply List.ext_getElem?; intro j
  rw [List.getElem?_set, tl_len hi hk, List.getD_eq_getElem?_getD, tl_get hi hk, tl_get hi hk, tl_get hi (by omega)]
  have e : k ≤ k + 1 := by omega
  rw [if_pos e]
  by_cases q : k + 1 = j
  · subst q
    rw [if_pos rfl, if_pos (by omega), if_neg (by omega), if_pos hk, Nat.add_sub_cancel, List.getElem?_eq_getElem (by omega)]; rfl
  · rw [if_neg q]; repeat' split
    all_goals first | rfl | omega
theorem tl_0 {o : List Nat} {i x : Nat} (hi : i < o.length) : (tl o i 0).set 0 x = x :: o.eraseIdx i := by
  rw [List.eraseIdx_eq_take_drop_succ]
  cases o with
  | nil => simp at hi
  | cons y o => simp [tl]
theorem moved_len {o : List Nat} {i : Nat} (hi : i < o.length) : (moved o i).length = o.length := by
  simp [moved, List.length_eraseIdx, hi]; omega
section
variable {ov : OvT} (H : OvH ov)
include H
theorem touch_cr {h : Heap} {c b i e sz : Nat} {A B : List Value} {o : List Nat} (hb : h.get b = some ⟨A ++ o.map nv ++ B, e, sz⟩) (ho : o.length = 6) (hi : i < 6) :
    CR Tryz.prog ov 276 [.pointer (some ⟨b, A.length, none⟩), iv i] ⟨h, c⟩ (fun v st => v = nv (o.getD i 0) ∧ st.heap.get b = some ⟨A ++ (moved o i).map nv ++ B, e, sz⟩ ∧ Keep [b] h c st) := by
  refine e_2 Tryz.func276 rfl (H _ (by decide)) Tryz.ntmps276 (by decide) ?_
  intro env U
  refine sg 1 J (qA U J (nK (sg 6 J (qM U J (qM U J (qN U J (q_indexAddrA U rfl rfl Tryz.underlying253 i3 s3 ⟨by omega, by omega⟩ ?_)))))))
  refine qL U rfl aA ((p3.1 _ _).trans (by have e1 : A.length + (i : Int).toNat * 1 = A.length + i := by omega;; rw [e1]; exact arr_get oA)) ?_
  refine qA U J (nK (rS (sg 2 J (qM U J (qA U J (nK (rB ?_)))))))
  refine rL (fun m env' s' => ∃ k, m = k ∧ k ≤ i ∧ Hd 32 [(0, .pointer (some ⟨b, A.length, none⟩)), (5, nv (o.getD i 0)), (6, iv k)] env' ∧ s'.heap.get b = some ⟨A ++ (tl o i k).map nv ++ B, e, sz⟩ ∧ Keep [b] h c s') i ?_ ?_
  · exact ⟨i, rfl, Nat.le_refl _, Ho U ⟨rfl, rfl, rfl, trivial⟩, by rw [tl_i (by omega)]; exact hb, Keep.refl (by omega)⟩
  rintro k _ ⟨h2, c2⟩ ⟨_, rfl, hk, ⟨env, U, rfl⟩, hb2, hK⟩
  dsimp only at hb2
  refine rS (sg 2 J (qM U J (qB U J J J (nK ?_))))
  refine rC U rfl (fun hk0 => ?_) (fun hk0 => ?_)
  · try simp only [dz, dy] at hk0
    obtain ⟨k, rfl⟩ : ∃ j, k = j + 1 := ⟨k - 1, by omega⟩
    refine rK (kN (rS (rB (rD [] (by decide +kernel) (by decide +kernel) (n := 11) rfl ?_))))
    refine qM U J (qM U J (qM U J (qM U J (q_sub U J J wA ?_))))
    refine qN U J (q_indexAddrA U rfl rfl Tryz.underlying253 i3 s3 ⟨by omega, by omega⟩ ?_)
    refine qL U rfl aA ((p3.1 _ _).trans (by have e1 : A.length + (((k + 1 : Nat) : Int) - 1).toNat * 1 = A.length + k := by omega;; rw [e1]; exact arr_get (by rw [tl_len oA hk]; omega))) ?_
    refine qN U J (q_indexAddrA U rfl rfl Tryz.underlying253 i3 s3 ⟨by omega, by omega⟩ ?_)
    refine qW U rfl rfl aA p3 rfl rfl (by simp [tl_len (show i < o.length by omega) hk]; omega) ?_
    refine ro_nild (kO (kN (rg 3 J (qM U J (q_sub U J J wA ?_)))))
    refine qA U J (nK ?_)
    refine ⟨k, by omega, k, rfl, by omega, Ho U ⟨rfl, rfl, ?_, trivial⟩, ?_, (hK.up oA).set (.inr (by simp))⟩
    · have e1 : ((k + 1 : Nat) : Int) - 1 = k := by omega
      simp only [e1]; rfl
    · dsimp only; rw [T.get_set, if_pos rfl]
      have e1 : A.length + ((k + 1 : Nat) : Int).toNat * 1 = A.length + (k + 1) := by omega
      rw [e1, arr_set (by rw [tl_len (by omega) hk]; omega), tl_set (by omega) hk]
  · try simp only [dz, dy] at hk0
    have e0 : k = 0 := by omega
    subst e0
    refine r_exit (kE (kE (kB (kN (sg 5 J (qM U J (qM U J (qN U J (q_indexAddrA U rfl rfl Tryz.underlying253 i3 s3 ⟨by omega, by omega⟩ ?_)))))))))
    refine qW U rfl rfl aA p3 rfl rfl (by simp [tl_len (show i < o.length by omega) (Nat.zero_le _)]; omega) ?_
    refine nK (sg 2 J (qM U J (qA U J (nK (rR (f_1 U J (.inl J) J ?_))))))
    refine ⟨rfl, ?_, (hK.up oA).set (.inr (by simp))⟩
    dsimp only; rw [T.get_set, if_pos rfl]
    have e1 : A.length + (0 : Int).toNat * 1 = A.length + 0 := rfl
    rw [e1, arr_set (by rw [tl_len (by omega) (Nat.zero_le _)]; omega), tl_0 (by omega)]; rfl
omit H in
theorem pk8 {A o : List Nat} {x y : Value} {B : List Value} (h : o.length = 6) : ([y, x] ++ o.map nv ++ B)[8]? = B[0]? := by
  rw [List.getElem?_append_right (by simp; omega)]; simp [h]
omit H in
theorem pk9 {A o : List Nat} {x y : Value} {B : List Value} (h : o.length = 6) : ([y, x] ++ o.map nv ++ B)[9]? = B[1]? := by
  rw [List.getElem?_append_right (by simp; omega)]; simp [h]
theorem fresh_cr {h : Heap} {c : Nat} :
    CR Tryz.prog ov 270 [] ⟨h, c⟩ (fun v st => v = .agg (([0, 1, 2, 3, 4, 5] : List Nat).map nv).toArray ∧ Keep [] h c st) := by
  refine e_0 Tryz.func270 rfl (H _ (by decide)) Tryz.ntmps270 ?_
  intro env U
  refine sg 1 J (qZ i253 z253 J (nK (sg 1 J (qZ i253 z253 J (nK (rS (sg 1 J (qM U J (nK (rB ?_))))))))))
  refine rL (fun m env' s' => ∃ k, m = 6 - k ∧ k ≤ 6 ∧ Hd 11 [(0, ptr c), (1, ptr (c + 1)), (3, iv k)] env' ∧ s'.heap.get c = some ⟨[nv 0, nv 0, nv 0, nv 0, nv 0, nv 0], 253, 0⟩ ∧ s'.heap.get (c + 1) = some ⟨([] : List Value) ++ ((List.range k) ++ List.replicate (6 - k) 0).map nv ++ [], 253, 0⟩ ∧ c + 2 ≤ s'.ctr ∧ Keep [] h c s') 6 ?_ ?_
  · exact ⟨0, rfl, by omega, Ho U ⟨rfl, rfl, rfl, trivial⟩, by simp [T.get_set, Value.cells], by simp [T.get_set, Value.cells], by simp, ((Keep.refl (by omega)).set (.inl (by omega))).set (.inl (by omega))⟩
  rintro m _ ⟨h2, c2⟩ ⟨k, rfl, hk, ⟨env, U, rfl⟩, hb1, hb2, hc2, hK⟩
  dsimp only at hb1 hb2 hc2
  refine sg 1 J (qB U J J J (nK (rS ?_)))
  refine rC U rfl (fun hk6 => ?_) (fun hk6 => ?_)
  · try simp only [dz, dy] at hk6
    refine rK (kN (rS (rB (sg 2 J (qM U J (qA U J (nK (rg 4 J (qM U J (qM U J (q_indexAddrA U rfl rfl Tryz.underlying253 i3 s3 ⟨by omega, by omega⟩ ?_)))))))))))
    refine qW U rfl rfl aA p3 rfl rfl (by simp <;> omega) ?_
    refine rN (kO (kN (rg 2 J (qP U J J wA ?_))))
    refine qM U J (nK ?_)
    refine ⟨6 - (k + 1), by omega, k + 1, rfl, by omega, Ho U ⟨rfl, rfl, rfl, trivial⟩, ?_, ?_, by dsimp only; omega, (hK.up oA).set (.inl oA)⟩
    · dsimp only; rw [T.get_set, if_neg (by omega)]; exact hb1
    · dsimp only; rw [T.get_set, if_pos rfl]
      have e1 : 0 + (k : Int).toNat * 1 = ([] : List Value).length + k := by simp
      rw [e1, arr_set (by simp; omega)]
      congr 4
      apply List.ext_getElem?; intro j
      have : k = 0 ∨ k = 1 ∨ k = 2 ∨ k = 3 ∨ k = 4 ∨ k = 5 := by omega
      rcases this with r | r | r | r | r | r <;> subst r <;> rfl
  · try simp only [dz, dy] at hk6
    have e : k = 6 := by omega
    subst e
    refine r_exit (kE (kE (kB (kN (sg 2 J (qL U J aA ((p253.1 _ _).trans J) (v := .agg (([0, 1, 2, 3, 4, 5] : List Nat).map nv).toArray) ?_))))))
    refine qV U rfl rfl aA p253 rfl rfl (by simp) ?_
    refine nK (rR (f_c U J (.inl J) J  (T.get_set _ _ _ _ |>.trans (if_pos J)) ((p253.1 _ _).trans J) ?_))
    refine ⟨?_, (hK.up oA).set (.inl oA)⟩
    rfl
end
theorem own_ne {g : Nat → Option Blk} {e sz n cp b : Nat} {cs : List Value} {a : Option Addr} {B : Blk} (hS : SlR e sz cs a n cp g) (hb : g b = some B) (he : B.elem ≠ e) : b ∉ own a := by
  rcases hS with ⟨_, rfl, _, _⟩ | ⟨x, rfl, _, hg, _, _⟩
  · simp [own]
  · simp only [own, List.mem_singleton]; rintro rfl; rw [hg] at hb; cases hb; exact he rfl
theorem blk_ne {g : Nat → Option Blk} {x y : Nat} {X Y : Blk} (hx : g x = some X) (hy : g y = some Y) (he : X.elem ≠ Y.elem) : x ≠ y := by
  rintro rfl; rw [hx] at hy; cases hy; exact he rfl
theorem BitR.ne {all : List Bool} {dr at_ r b : Nat} {g : Nat → Option Blk} {B : Blk} (hR : BitR all dr at_ (g r)) (hb : g b = some B) (he : B.elem ≠ 123) : r ≠ b := by
  obtain ⟨s, hs, _⟩ := hR; exact blk_ne hs hb (fun e => he e.symm)
theorem BitR.own {all : List Bool} {dr at_ r : Nat} {g : Nat → Option Blk} {e sz n cp : Nat} {cs : List Value} {a : Option Addr} (hR : BitR all dr at_ (g r)) (hS : SlR e sz cs a n cp g) (he : e ≠ 123) : r ∉ own a := by
  obtain ⟨s, hs, _⟩ := hR; exact own_ne hS hs (fun q => he q.symm)
theorem shrP {P : Program} {t : TypeId} (k' : IntKind) (a p : Nat) (j : Int) (k2 : IntKind) (h : 0 ≤ j ∧ j ≤ k'.bits) (hp : 2 ^ j.toNat = p) : evBin P .shr t (.int k' a) (.int k2 j) = some (.int k' ((a / p : Nat) : Int)) := by
  have h1 : ¬ j < 0 := by omega
  have h2 : min j.toNat k'.bits = j.toNat := by omega
  simp only [evBin, if_neg h1, h2, fdiv_pow, hp]
theorem and_maskU {P : Program} {t : TypeId} (m k : Nat) {M : Int} (h : m < 2 ^ 32) (hk : k ≤ 32) (hM : M = ((2 ^ k - 1 : Nat) : Int)) : evBin P .and t (.int .u32 m) (.int .u32 M) = some (.int .u32 ((m % 2 ^ k : Nat) : Int)) := by
  subst hM
  have hp : 2 ^ k ≤ 2 ^ 32 := Nat.pow_le_pow_right (by omega) hk
  have h3 : IntKind.u32.wrap ((BitVec.ofInt 32 (m : Int) &&& BitVec.ofInt 32 ((2 ^ k - 1 : Nat) : Int)).toNat) = ((m % 2 ^ k : Nat) : Int) := by
    have e1 : BitVec.ofInt 32 (m : Int) = BitVec.ofNat 32 m := rfl
    have e2 : BitVec.ofInt 32 ((2 ^ k - 1 : Nat) : Int) = BitVec.ofNat 32 (2 ^ k - 1) := rfl
    have e3 : (BitVec.ofNat 32 m &&& BitVec.ofNat 32 (2 ^ k - 1)).toNat = m % 2 ^ k := by
      rw [BitVec.toNat_and, BitVec.toNat_ofNat, BitVec.toNat_ofNat, Nat.mod_eq_of_lt h, Nat.mod_eq_of_lt (by omega)]; exact Nat.and_two_pow_sub_one_eq_mod m k
    rw [e1, e2, e3]
    have : m % 2 ^ k ≤ m := Nat.mod_le _ _
    exact wrapU32 (by omega) (by omega)
  simp only [evBin, if_true]; exact congrArg (fun z => some (Value.int .u32 z)) h3
theorem num_div (a b : List Bool) : num (a ++ b) / 2 ^ b.length = num a := by
  rw [num_append, Nat.mul_comm, Nat.mul_add_div (Nat.two_pow_pos _), Nat.div_eq_of_lt (num_lt b), Nat.add_zero]
theorem num_mod (a b : List Bool) : num (a ++ b) % 2 ^ b.length = num b := by
  rw [num_append, Nat.mul_comm, Nat.mul_add_mod, Nat.mod_eq_of_lt (num_lt b)]
def PkW (w : Bool) (p : Pk) (b : Nat) (a : Option Addr) (g : Nat → Option Blk) : Prop := p.good ∧ ∃ cp, g b = some ⟨[nv p.t, nv p.count] ++ p.order.map nv ++ [.slice a p.picks.length cp, .bool w], 255, 0⟩ ∧ SlR 3 1 (p.picks.map nv) a p.picks.length cp g
abbrev PkR (p : Pk) (b : Nat) (a : Option Addr) (g : Nat → Option Blk) : Prop := PkW false p b a g
theorem PkW.move {w : Bool} {p : Pk} {b : Nat} {a : Option Addr} {g g' : Nat → Option Blk} (h : PkW w p b a g) (hg : ∀ z, z = b ∨ z ∈ own a → g' z = g z) : PkW w p b a g' := by
  obtain ⟨h0, cp, h1, h2⟩ := h
  exact ⟨h0, cp, (hg b (.inl rfl)).trans h1, h2.move (fun z hz => hg z (.inr hz))⟩
theorem _root_.Go.AE.Keep.app2 {W : List Nat} {h h2 h3 : Heap} {c c2 c3 nm nm0 : Nat} {a : Option Addr} {B : Blk} (k : Keep W h c ⟨h2, c2⟩) (hF : ∀ z, z ≠ nm → z ∉ own a → h3.get z = (h2.set nm0 B).get z) (hO : ∀ z ∈ own a, c ≤ z ∨ z ∈ W) (h1 : c ≤ nm) (h0 : c ≤ nm0) (hc : c2 ≤ c3) : Keep W h c ⟨h3, c3⟩ :=
  ⟨Nat.le_trans k.1 hc, fun x hx hw => by
    rw [hF x (by omega) (fun m => by rcases hO x m with q | q; omega; exact hw q), T.get_set, if_neg (by omega)]; exact k.2 x hx hw⟩
theorem pk8_set {o : List Nat} {x y s v : Value} {B : List Value} (h : o.length = 6) : ([y, x] ++ o.map nv ++ (s :: B)).set (0 + 8) v = [y, x] ++ o.map nv ++ (v :: B) := by
  have e : (0 + 8) = ([y, x] ++ o.map nv).length + 0 := by simp [h]
  rw [e, List.set_append_right _ _ (by omega)]; simp
section
variable {ov : OvT} (H : OvH ov)
include H
theorem pkNew_cr {h : Heap} {c : Nat} :
    CR Tryz.prog ov 257 [] ⟨h, c⟩ (fun v st => ∃ b, v = ptr b ∧ PkR Pk.none b none st.heap.get ∧ c ≤ b ∧ b < st.ctr ∧ Keep [] h c st) := by
  refine e_0 Tryz.func257 rfl (H _ (by decide)) Tryz.ntmps257 ?_
  intro env U
  refine sg 1 J (qA U J (nK (sg 4 J (qC U J (CR.mono (fresh_cr H) ?_)))))
  rintro v ⟨hh1, cc1⟩ ⟨rfl, hK⟩
  have hc1 : c + 1 + 4 ≤ cc1 := hK.1
  refine qU U rfl i255 z255 rfl (by simp [Program.built, Instr.fill, Tryz.underlying255, Value.cells]; rfl) ?_
  refine q_box U J (qA U J (nK (rR (f_1 U J (.inl J) J ?_))))
  refine ⟨_, rfl, ⟨⟨rfl, by decide, by decide, by decide, by decide, by decide, fun i hi => absurd hi (by simp [Pk.none]), fun _ => rfl⟩, 0, ?_, SlR.nil⟩, by omega, by dsimp only; omega, ?_⟩
  · simp [T.get_set, Value.cells, Pk.none]
  · exact (hK.base (by omega)).set (.inl (by omega))
theorem pkDone_cr {h : Heap} {c b : Nat} {w : Bool} {p : Pk} {a : Option Addr} (hP : PkW w p b a h.get) :
    CR Tryz.prog ov 245 [ptr b] ⟨h, c⟩ (fun v st => v = .bool p.done ∧ Same h c st) := by
  obtain ⟨h0, cp, hb, hS⟩ := hP
  refine e_1 Tryz.func245 rfl (H _ (by decide)) Tryz.ntmps245 (by decide) ?_
  intro env U
  refine sg 1 J (qA U J (nK (rS (rD [] (by decide +kernel) (by decide +kernel) (n := 22) rfl ?_))))
  refine qM U J (qB U J J (nn210 _) (qM U J (qG U J J J J (qM U J (qG U J J J J (qN U J (qG U J J J J (qF U J fa255_1 (qG U J J J J (qL U J aA ((p3.1 _ _).trans J) ?_))))))))))
  refine qG U J J J J (qB U J J J (qQ U J J J (if_pos J) (qM U J ?_)))
  refine q_case U (rfl : lk _ _ 12 = _) (fun hg => ?_) (fun hg => ?_)
  · have hg_ := hg
    try simp only [dz] at hg_
    refine qG U J J J hg (qM U J (qG U J J J hg (qN U J (qG U J J J hg (qF U J fa255_3 (qG U J J J hg (qL U J aA ((p171.1 _ _).trans (pk8 (A := []) h0.1)) ?_)))))))
    refine qG U J J J hg (q_lenL U J Tryz.underlying171 (qG U J J J hg (qM U J (qG U J J J hg (qN U J (qG U J J J hg (qF U J fa255_1 (qG U J J J hg (qL U J aA ((p3.1 _ _).trans J) ?_)))))))))
    refine qG U J J J hg (qB U J J J (qQ U J J J (if_pos hg) (qA U J (ro_nild (kN (rR (f_1 U J (.inl J) J ?_)))))))
    refine ⟨?_, rfl, by simp <;> omega⟩
    have q : 0 < p.count := by omega
    simp [Pk.done, q]
    rw [Bool.eq_iff_iff]; simp
    omega
  · have hg_ := hg
    try simp only [dz] at hg_
    refine qS U rfl rfl rfl rfl (by rw [hg]; decide) ?_
    refine qS U rfl rfl rfl rfl (by rw [hg]; decide) ?_
    refine qS U rfl rfl rfl rfl (by rw [hg]; decide) ?_
    refine qS U rfl rfl rfl rfl (by rw [hg]; decide) ?_
    refine qS U rfl rfl rfl rfl (by rw [hg]; decide) ?_
    refine qS U rfl rfl rfl rfl (by rw [hg]; decide) ?_
    refine qS U rfl rfl rfl rfl (by rw [hg]; decide) ?_
    refine qS U rfl rfl rfl rfl (by rw [hg]; decide) ?_
    refine qS U rfl rfl rfl rfl (by rw [hg]; decide) ?_
    refine qS U rfl rfl rfl rfl (by rw [hg]; decide) ?_
    refine qQ U rfl rfl rfl (if_neg (by rw [hg]; decide)) ?_
    refine qA U J (ro_nild (kN (rR (f_1 U J (.inl J) J ?_))))
    refine ⟨?_, rfl, by simp <;> omega⟩
    have q : ¬ 0 < p.count := by omega
    simp [Pk.done, q]
theorem pkTables_cr {h : Heap} {c b : Nat} {p : Pk} {a : Option Addr} (hP : PkR p b a h.get) :
    CR Tryz.prog ov 247 [ptr b] ⟨h, c⟩ (fun v st => v = nv p.t ∧ Same h c st) := by
  obtain ⟨h0, cp, hb, hS⟩ := hP
  refine e_1 Tryz.func247 rfl (H _ (by decide)) Tryz.ntmps247 (by decide) ?_
  intro env U
  refine sg 1 J (qA U J (nK (rS (sg 2 J (qM U J (qB U J J (nq210 _) (nK (rF U J dA ?_))))))))
  refine rK (kN (sg 5 J (qM U J (qN U J (qF U J fa255_0 (qL U J aA ((p3.1 _ _).trans J) ?_))))))
  refine qA U J (nK (rR (f_1 U J (.inl J) J ?_)))
  exact ⟨rfl, rfl, by simp <;> omega⟩
theorem clone_cr {h : Heap} {c n cp : Nat} {l : List Nat} {a : Option Addr} (hS : SlR 3 1 (l.map nv) a n cp h.get) (hc : ∀ z ∈ own a, z < c) (hn : n ≤ 1000000) :
    CR Tryz.prog ov 182 [.slice a n cp] ⟨h, c⟩ (fun v st => ∃ a' cp', v = .slice a' n cp' ∧ SlR 3 1 (l.map nv) a' n cp' st.heap.get ∧ (∀ z ∈ own a', c ≤ z ∧ z < st.ctr) ∧ Keep [] h c st) := by
  have hS0 := hS
  rcases hS with ⟨h1, rfl, rfl, rfl⟩ | ⟨b, rfl, rfl, hg, hlen, hpos⟩
  · skip
    refine e_1 Tryz.func182 rfl (H _ (by decide)) Tryz.ntmps182 (by decide) ?_
    intro env U
    refine sg 1 J (qA U J (nK (rS (sg 2 J (qM U J (qB U J J lz171 (nK (rT U J dA ?_))))))))
    refine sg 1 J (qA U J (nK (rR (kR (f_1 U J (.inl J) J ?_)))))
    exact ⟨none, 0, rfl, hS0, by simp [own], Keep.refl (by omega)⟩
  · skip
    refine e_1 Tryz.func182 rfl (H _ (by decide)) Tryz.ntmps182 (by decide) ?_
    intro env U
    refine sg 1 J (qA U J (nK (rS (sg 2 J (qM U J (qB U J J (lq171 _ _ _) (nK (rF U J dA ?_))))))))
    refine rK (kN (sg 4 J (q_bs0 a171 (qM U J (q_append0 U rfl rfl a171 ((T.get_set _ _ _ _).trans (if_pos rfl)) ((hS0.move (fun z hz => by have := hc z hz; rw [T.get_set, if_neg oA])).src Tryz.underlying171 (all_map_int _ _ _)) hlen hpos oA oA ?_)))))
    intro h3 hS3 hF3
    refine qA U J (nK (rR (f_1 U J (.inl J) J ?_)))
    refine ⟨_, 1, rfl, hS3, fun z hz => ?_, ⟨by dsimp only; omega, fun x hx _ => ?_⟩⟩
    · simp only [own, List.mem_singleton] at hz; subst hz; dsimp only; omega
    · dsimp only; rw [hF3 x (by omega) (by omega), T.get_set, if_neg (by omega)]
theorem pkPicks_cr {h : Heap} {c b : Nat} {p : Pk} {a : Option Addr} (hP : PkR p b a h.get) (hc : ∀ z ∈ own a, z < c) :
    CR Tryz.prog ov 150 [ptr b] ⟨h, c⟩ (fun v st => ∃ a' cp', v = .slice a' p.picks.length cp' ∧ SlR 3 1 (p.picks.map nv) a' p.picks.length cp' st.heap.get ∧ (∀ z ∈ own a', c ≤ z ∧ z < st.ctr) ∧ Keep [] h c st) := by
  obtain ⟨h0, cp, hb, hS⟩ := hP
  have hn := h0.2.2.2.1; have hn2 := h0.2.2.2.2.1
  refine e_1 Tryz.func150 rfl (H _ (by decide)) Tryz.ntmps150 (by decide) ?_
  intro env U
  refine sg 1 J (qA U J (nK (rS (sg 2 J (qM U J (qB U J J (nq210 _) (nK (rF U J dA ?_))))))))
  refine rK (kN (sg 6 J (qM U J (qN U J (qF U J fa255_3 (qL U J aA ((p171.1 _ _).trans (pk8 (A := []) h0.1)) ?_))))))
  refine qC U J (CR.mono (clone_cr H hS (fun z hz => by have := hc z hz; omega) oA) ?_)
  rintro v ⟨hh1, cc1⟩ ⟨a', cp', rfl, hS', hO', hK'⟩
  refine qA U J (nK (rR (f_1 U J (.inl J) J ?_)))
  exact ⟨a', cp', rfl, hS', fun z hz => by have := hO' z hz; dsimp only at *; omega, (hK'.base (by omega)).up (by omega)⟩
theorem pkTabled_cr {h : Heap} {c t : Nat} :
    CR Tryz.prog ov 278 [nv t] ⟨h, c⟩ (fun v st => v = .bool (2 ≤ t && t ≤ 6) ∧ Same h c st) := by
  refine e_1 Tryz.func278 rfl (H _ (by decide)) Tryz.ntmps278 (by decide) ?_
  intro env U
  refine sg 1 J (qA U J (nK (sg 7 J (qM U J (qB U J J J (qM U J ?_))))))
  refine q_case U (rfl : lk _ _ 5 = _) (fun hg => ?_) (fun hg => ?_)
  · have hg_ := hg
    try simp only [dz] at hg_
    refine qG U J J J hg (qM U J (qG U J J J hg (qB U J J J (qQ U J J J (if_pos hg) (qA U J (nK (rR (f_1 U J (.inl J) J ?_))))))))
    refine ⟨?_, rfl, by simp <;> omega⟩
    have q : 2 ≤ t := by omega
    simp [q]
    omega
  · have hg_ := hg
    try simp only [dz] at hg_
    refine qS U rfl rfl rfl rfl (by rw [hg]; decide) ?_
    refine qS U rfl rfl rfl rfl (by rw [hg]; decide) ?_
    refine qQ U rfl rfl rfl (if_neg (by rw [hg]; decide)) ?_
    refine qA U J (nK (rR (f_1 U J (.inl J) J ?_)))
    refine ⟨?_, rfl, by simp <;> omega⟩
    have q : ¬ 2 ≤ t := by omega
    simp [q]
omit H in
theorem pk9_set {o : List Nat} {x y s u v : Value} (h : o.length = 6) : ([y, x] ++ o.map nv ++ [s, u]).set (0 + 9) v = [y, x] ++ o.map nv ++ [s, v] := by
  have e : (0 + 9) = ([y, x] ++ o.map nv).length + 1 := by simp [h]
  rw [e, List.set_append_right _ _ (by omega)]; simp
theorem pkFail_cr {h : Heap} {c b : Nat} {p : Pk} {a : Option Addr} (hP : PkR p b a h.get) :
    CR Tryz.prog ov 277 [ptr b] ⟨h, c⟩ (fun v st => v = nv 25 ∧ PkW true p b a st.heap.get ∧ Keep [b] h c st) := by
  obtain ⟨h0, cp, hb, hS⟩ := hP
  have hbo := own_ne hS hb (by dsimp only; decide)
  refine e_1 Tryz.func277 rfl (H _ (by decide)) Tryz.ntmps277 (by decide) ?_
  intro env U
  refine sg 1 J (qA U J (nK (sg 4 J (qM U J (qN U J (qF U J fa255_4 (qW U rfl rfl aA p4 rfl rfl (by simp [h0.1]) ?_)))))))
  refine nK (sg 1 J (qA U J (nK (rR (f_1 U J (.inl J) J ?_)))))
  refine ⟨rfl, ⟨h0, cp, ?_, hS.move (fun z hz => by dsimp only; rw [T.get_set, if_neg (fun e : z = b => hbo (e ▸ hz))])⟩, (Keep.refl oA).set (.inr (by simp))⟩
  dsimp only; rw [T.get_set, if_pos rfl]; congr 2; exact pk9_set h0.1
end
theorem ones_app {a b : List Bool} (h : ones a = a.length) : ones (a ++ b) = a.length + ones b := by
  induction a with
  | nil => simp
  | cons t a ih => cases t with
    | true => simp only [ones, List.length_cons] at h; simp only [List.cons_append, ones, List.length_cons]; rw [ih (by omega)]; omega
    | false => simp [ones] at h
theorem ones_at {l : List Bool} {j t : Nat} (h : ones (l.take j) = j) (hj : j ≤ t) (U : j ≤ l.length) : ones (l.take t) = j + ones ((l.drop j).take (t - j)) := by
  have e : l.take t = l.take j ++ (l.drop j).take (t - j) := by rw [← List.take_add]; congr 1; omega
  have e2 : (l.take j).length = j := by rw [List.length_take]; omega
  rw [e, ones_app (by omega), e2]
theorem moved_mem {o : List Nat} {i x : Nat} (hi : i < o.length) (h : x ∈ moved o i) : x ∈ o := by
  simp only [moved, List.mem_cons] at h
  rcases h with rfl | h
  · rw [List.getD_eq_getElem?_getD, List.getElem?_eq_getElem hi]; simp
  · exact List.mem_of_mem_eraseIdx h
theorem moved_getD {o : List Nat} {j t i : Nat} (hj : j < o.length) (hjt : j < t) (h : ∀ i, i < t → o.getD i 0 < t) (hi : i < t) : (moved o j).getD i 0 < t := by
  cases i with
  | zero => exact h j hjt
  | succ i =>
    simp only [moved, List.getD_eq_getElem?_getD, List.getElem?_cons_succ, List.getElem?_eraseIdx] at *
    split
    · exact h i (by omega)
    · exact h (i + 1) hi
theorem BitR.move {all : List Bool} {dr k : Nat} {x y : Option Blk} (h : BitR all dr k x) (e : y = x) : BitR all dr k y := e ▸ h
section
variable {ov : OvT} (H : OvH ov)
include H
theorem pkHead_cr {h : Heap} {c b r dr at_ : Nat} {all : List Bool} {p : Pk} {a : Option Addr} (hP : PkR p b a h.get) (hR : BitR all dr at_ (h.get r)) (hc : b < c ∧ r < c ∧ ∀ z ∈ own a, z < c) (h0 : p.count = 0) :
    CR Tryz.prog ov 273 [ptr b, ptr r] ⟨h, c⟩ (fun v st => (match p.head (all.drop at_) with
      | .ok (p', n) => v = nv 0 ∧ BitR all dr (at_ + n) (st.heap.get r) ∧ PkR p' b a st.heap.get
      | .error e => v = nv e ∧ (e = 3 → BitR all dr at_ (st.heap.get r) ∧ PkR p b a st.heap.get) ∧ (∃ w, PkW w p b a st.heap.get) ∧ ∃ k, at_ ≤ k ∧ BitR all dr k (st.heap.get r)) ∧ Keep [r, b] h c st) := by
  obtain ⟨hb1, hr1, ha1⟩ := hc
  obtain ⟨hg, cp, hb, hS⟩ := id hP
  have hne : r ≠ b := hR.ne hb (by dsimp only; decide)
  have hno := hR.own hS (by decide)
  have hbo := own_ne hS hb (by dsimp only; decide)
  have hpk : p.picks.length = 0 := by have := hg.2.2.2.2.1; omega
  refine e_2 Tryz.func273 rfl (H _ (by decide)) Tryz.ntmps273 (by decide) ?_
  intro env U
  refine sg 1 J (qA U J (nK (sg 7 J (qM U J (qC U J (CR.mono ((get_any H hR oA oA (n := 18))) ?_))))))
  rintro v ⟨hh1, cc1⟩ ⟨e9, w9, rfl, hG, hGK⟩
  have hcc1 : c + 1 + 7 ≤ cc1 := hGK.1
  have hP2 := hP.move (g' := hh1.get) (fun z hz => hGK.2 z (by rcases hz with rfl | hz; omega; have := ha1 z hz; omega) (by simp; rintro rfl; rcases hz with hz | hz; exact hne hz; exact hno hz))
  obtain ⟨_, cp2, hb2, hS2⟩ := id hP2
  refine qM U J (qE U J J (qE U J J (qA U J (qA U J (nK (rS (sg 2 J (qM U J (qB U J J J (nK ?_))))))))))
  refine rC U rfl (fun he => ?_) (fun he => ?_)
  · try simp only [dz, dy] at he
    refine sg 2 J (qM U J (qA U J (nK (rR (kR (f_1 U J (.inl J) J ?_))))))
    rcases hG with ⟨hlt, rfl, _, hR4⟩ | ⟨_, rfl, _, _⟩
    · have hu : p.head (all.drop at_) = .error 3 := by simp only [Pk.head]; rw [if_pos (by rw [List.length_drop]; omega)]
      rw [hu]
      exact ⟨⟨rfl, fun _ => ⟨hR4, hP2⟩, ⟨_, hP2⟩, at_, Nat.le_refl _, hR4⟩, ((hGK.base (by omega)).weak (by simp)).up (by omega)⟩
    · simp at he
  · try simp only [dz, dy] at he
    rcases hG with ⟨_, rfl, _, _⟩ | ⟨hle, _, rfl, hR4⟩
    · simp at he
    have e18 : (all.drop at_).take 18 = (all.drop at_).take 3 ++ ((all.drop at_).drop 3).take 15 := List.take_add (i := 3) (j := 15)
    have e15 : (((all.drop at_).drop 3).take 15).length = 15 := by rw [List.length_take, List.length_drop, List.length_drop]; omega
    have e3 : ((all.drop at_).take 3).length = 3 := by rw [List.length_take, List.length_drop]; omega
    have hd : num ((all.drop at_).take 18) / 32768 = num ((all.drop at_).take 3) := by have := num_div ((all.drop at_).take 3) (((all.drop at_).drop 3).take 15); rw [← e18, e15] at this; exact this
    have hm : num ((all.drop at_).take 18) % 32768 = num (((all.drop at_).drop 3).take 15) := by have := num_mod ((all.drop at_).take 3) (((all.drop at_).drop 3).take 15); rw [← e18, e15] at this; exact this
    have hlt3 := num_lt ((all.drop at_).take 3); rw [e3] at hlt3
    have hlt15 := num_lt (((all.drop at_).drop 3).take 15); rw [e15] at hlt15
    have e18l : ((all.drop at_).take 18).length = 18 := by rw [List.length_take, List.length_drop]; omega
    have hlt18 := num_lt ((all.drop at_).take 18); rw [e18l] at hlt18
    refine rK (kN (sg 8 J (qM U J (qB U rfl rfl (shrP .u32 _ 32768 _ _ ⟨by omega, by decide⟩ rfl) ?_))))
    refine qH U J Tryz.underlying38 Tryz.underlying3 wA ?_
    refine qM U J (qB U J J (and_maskU _ 15 oA oA J) ?_)
    refine qH U J Tryz.underlying38 Tryz.underlying3 wA ?_
    simp only [hd, show (2 : Nat) ^ 15 = 32768 from rfl, hm]
    refine qA U J (qA U J (nK (rS (sg 7 J (qM U J (qC U J (CR.mono (pkTabled_cr H) ?_)))))))
    rintro v ⟨hh2, cc2⟩ ⟨rfl, rfl, hk⟩
    try dsimp only at hk
    refine q_un U J J (qM U J ?_)
    refine q_case U (rfl : lk _ _ 26 = _) (fun hgd => ?_) (fun hgd => ?_)
    · have hgd_ := hgd
      try simp only [dz] at hgd_
      refine qS U rfl rfl rfl rfl (by rw [hgd]; decide) ?_
      refine qS U rfl rfl rfl rfl (by rw [hgd]; decide) ?_
      refine qQ U J J J (if_pos hgd) (nK (rT U rfl (by rfl) ?_))
      refine sg 3 J (qM U J (qC U J (CR.mono (pkFail_cr H hP2) ?_)))
      rintro v ⟨hh3, cc3⟩ ⟨rfl, hPf, hKf⟩
      refine qA U J (nK (rR (kR (f_1 U J (.inl J) J ?_))))
      have hu : p.head (all.drop at_) = .error 25 := by simp only [Pk.head]; rw [if_neg (by rw [List.length_drop]; omega), if_pos (by simp at hgd_; omega)]
      rw [hu]
      exact ⟨⟨rfl, fun q => absurd q (by decide), ⟨_, hPf⟩, _, by omega, hR4.move (hKf.2 r (by omega) (by simpa using hne))⟩, (((hGK.base (by omega)).weak (by simp)).up (by omega)).call hKf (fun x hx => .inr (by simp at hx; simp [hx])) |>.up (by omega)⟩
    · have hgd_ := hgd
      try simp only [dz] at hgd_
      refine qG U J J J hgd (qM U J (qG U J J J hgd (qB U J J J (qQ U rfl rfl rfl (if_neg (by rw [hgd]; decide)) ?_))))
      refine nK ?_
      refine rC U rfl (fun hbad => ?_) (fun hbad => ?_)
      · try simp only [dz, dy] at hbad
        refine sg 3 J (qM U J (qC U J (CR.mono (pkFail_cr H hP2) ?_)))
        rintro v ⟨hh4, cc4⟩ ⟨rfl, hPf, hKf⟩
        refine qA U J (nK (rR (kR (f_1 U J (.inl J) J ?_))))
        have hu : p.head (all.drop at_) = .error 25 := by simp only [Pk.head]; rw [if_neg (by rw [List.length_drop]; omega), if_pos (by omega)]
        rw [hu]
        exact ⟨⟨rfl, fun q => absurd q (by decide), ⟨_, hPf⟩, _, by omega, hR4.move (hKf.2 r (by omega) (by simpa using hne))⟩, (((hGK.base (by omega)).weak (by simp)).up (by omega)).call hKf (fun x hx => .inr (by simp at hx; simp [hx])) |>.up (by omega)⟩
      · try simp only [dz, dy] at hbad
        refine rK (kN (sg 5 J (qM U J (qM U J (qN U J (qF U J fa255_0 (qW U rfl rfl gA p3 rfl rfl (by first | decide | (simp; done) | (simp; omega)) ?_)))))))
        refine nK (sg 5 J (qM U J (qM U J (qN U J (qF U J fa255_1 (qW U rfl rfl gA p3 rfl rfl (by first | decide | (simp; done) | (simp; omega)) ?_))))))
        refine nK (sg 1 J (qA U J (nK (rR (f_1 U J (.inl J) J ?_)))))
        have hu : p.head (all.drop at_) = .ok ({ p with t := num ((all.drop at_).take 3), count := num (((all.drop at_).drop 3).take 15) }, 18) := by simp only [Pk.head]; rw [if_neg (by rw [List.length_drop]; omega), if_neg (by simp at hgd_; omega)]
        rw [hu]
        refine ⟨⟨rfl, hR4.move ?_, ⟨hg.1, hg.2.1, by simp at hgd_; dsimp only; omega, by dsimp only; omega, by dsimp only; omega, by rw [List.eq_nil_of_length_eq_zero hpk]; simp, fun i hi => ?_, fun q => by dsimp only at q; omega⟩, cp2, ?_, hS2.move ?_⟩, ((((hGK.base oA).weak (by simp)).set (.inr (by simp))).set (.inr (by simp))).up oA⟩
        · dsimp only; rw [T.get_set, if_neg hne, T.get_set, if_neg hne]
        · simp at hgd_; dsimp only at *; rw [hg.2.2.2.2.2.2.2 h0]
          have h6 : i < 6 := by omega
          have e6 : ([0, 1, 2, 3, 4, 5] : List Nat).getD i 0 = i := by rcases (by omega : i = 0 ∨ i = 1 ∨ i = 2 ∨ i = 3 ∨ i = 4 ∨ i = 5) with e | e | e | e | e | e <;> subst e <;> rfl
          omega
        · dsimp only; rw [T.get_set, if_pos rfl]; rfl
        · intro z hz; have : z ≠ b := fun e => hbo (e ▸ hz)
          dsimp only; rw [T.get_set, if_neg this, T.get_set, if_neg this]
theorem pkPick_cr {h : Heap} {c b r dr at_ : Nat} {all : List Bool} {p : Pk} {a : Option Addr} (hP : PkR p b a h.get) (hR : BitR all dr at_ (h.get r)) (hc : b < c ∧ r < c ∧ ∀ z ∈ own a, z < c) (h0 : p.picks.length < p.count) :
    CR Tryz.prog ov 272 [ptr b, ptr r] ⟨h, c⟩ (fun v st => (match p.pick (all.drop at_) with
      | .ok (p', n) => v = nv 0 ∧ BitR all dr (at_ + n) (st.heap.get r) ∧ ∃ a', PkR p' b a' st.heap.get ∧ ∀ z ∈ own a', c ≤ z ∧ z < st.ctr
      | .error e => v = nv e ∧ (e = 3 → BitR all dr (at_ + (all.drop at_).length) (st.heap.get r) ∧ PkR p b a st.heap.get) ∧ (∃ w, PkW w p b a st.heap.get) ∧ ∃ k, at_ ≤ k ∧ BitR all dr k (st.heap.get r)) ∧ Keep (r :: b :: own a) h c st) := by
  obtain ⟨hb1, hr1, ha1⟩ := hc
  obtain ⟨hg, cp, hb, hS⟩ := id hP
  have hne : r ≠ b := hR.ne hb (by dsimp only; decide)
  have hno := hR.own hS (by decide)
  have hbo := own_ne hS hb (by dsimp only; decide)
  have hct := hg.2.2.2.1
  have ht6 := hg.2.2.1
  have hln : (all.drop at_).length = all.length - at_ := List.length_drop
  refine e_2 Tryz.func272 rfl (H _ (by decide)) Tryz.ntmps272 (by decide) ?_
  intro env U
  refine sg 1 J (qA U J (nK (rS (sg 5 J (qM U J (qN U J (qF U J fa255_0 (qL U J gA ((p3.1 _ _).trans J) ?_))))))))
  refine qM U J (nK (rB ?_))
  refine rL (fun m env' s' => ∃ j, m = p.t - j ∧ j ≤ p.t ∧ j ≤ (all.drop at_).length ∧ ones ((all.drop at_).take j) = j ∧ Hd 42 [(0, ptr b), (1, ptr r), (11, nv p.t), (12, iv j)] env' ∧ BitR all dr (at_ + j) (s'.heap.get r) ∧ Keep [r] h c s') p.t ?_ ?_
  · exact ⟨0, rfl, Nat.zero_le _, Nat.zero_le _, rfl, Ho U ⟨rfl, rfl, rfl, rfl, trivial⟩, hR, Keep.refl (by omega)⟩
  rintro m _ ⟨h2, c2⟩ ⟨j, rfl, hj, hjl, hon, ⟨env, U, rfl⟩, hR2, hK⟩
  dsimp only at hR2
  have hcc : c ≤ c2 := hK.1
  have hat := ones_at hon hj hjl
  refine sg 1 J (qB U J J J (nK (rS ?_)))
  refine rC U rfl (fun hjt => ?_) (fun hjt => ?_)
  · try simp only [dz, dy] at hjt
    refine rK (kN (rS (rB (sg 2 J (qM U J (qA U J (nK (sg 7 J (qM U J (qC U J (CR.mono ((get_any H hR2 oA oA (n := 1))) ?_)))))))))))
    rintro v ⟨hh1, cc1⟩ ⟨e9, w9, rfl, hG, hGK⟩
    have hcc1 : c2 + 1 + 2 + 7 ≤ cc1 := hGK.1
    have hK2 := hK.call (hGK.base (c0 := c2) (by omega)) (fun x hx => .inr hx)
    have hP2 := hP.move (g' := hh1.get) (fun z hz => hK2.2 z (by rcases hz with rfl | hz; omega; have := ha1 z hz; omega) (by simp; rintro rfl; rcases hz with hz | hz; exact hne hz; exact hno hz))
    obtain ⟨_, cp2, hb2, hS2⟩ := id hP2
    refine qM U J (qE U J J (qE U J J (qA U J (qA U J (nK (rS (sg 2 J (qM U J (qB U J J J (nK ?_))))))))))
    refine rC U rfl (fun he => ?_) (fun he => ?_)
    · try simp only [dz, dy] at he
      refine sg 2 J (qM U J (qA U J (nK (rR (kR (k_bloR (kR (kR (k_bloR (kR (f_1 U J (.inl J) J ?_)))))))))))
      rcases hG with ⟨hlt, rfl, _, hR4⟩ | ⟨_, rfl, _, _⟩
      · have q0 : (all.drop at_).length = j := by omega
        have q1 : ones ((all.drop at_).take p.t) = j := by rw [hat, List.drop_eq_nil_of_le (by omega)]; simp [ones]
        have hu : p.pick (all.drop at_) = .error 3 := by simp only [Pk.pick]; rw [q1, if_neg (by omega), if_pos q0.symm]
        rw [hu]
        exact ⟨⟨rfl, fun _ => ⟨by rw [q0]; exact hR4, hP2⟩, ⟨_, hP2⟩, _, by omega, hR4⟩, (hK2.weak (by simp)).up (by omega)⟩
      · simp at he
    · try simp only [dz, dy] at he
      rcases hG with ⟨_, rfl, _, _⟩ | ⟨hle, _, rfl, hR4⟩
      · simp at he
      obtain ⟨t, ht⟩ : ∃ t, all[at_ + j]? = some t := ⟨_, List.getElem?_eq_getElem (by omega)⟩
      have hd1 : (all.drop at_).drop j = t :: all.drop (at_ + j + 1) := by rw [List.drop_drop]; exact (List.drop_eq_getElem_cons (by omega)).trans (by congr 1; rw [List.getElem?_eq_getElem (by omega)] at ht; exact Option.some.inj ht)
      have hn1 : (all.drop (at_ + j)).take 1 = [t] := by rw [← List.drop_drop, hd1]; rfl
      simp only [hn1]
      refine rK (kN (sg 2 J (qM U J (qB U J J J (nK ?_)))))
      refine rC U rfl (fun ht0 => ?_) (fun ht0 => ?_)
      · try simp only [dz, dy] at ht0
        have htt : t = false := by cases t with | false => rfl | true => (simp [num] at ht0)
        subst htt
        have q1 : ones ((all.drop at_).take p.t) = j := by rw [hat, hd1, show p.t - j = (p.t - j - 1) + 1 by omega]; simp [ones]
        have hu : p.pick (all.drop at_) = .ok ({ p with order := moved p.order j, picks := p.picks ++ [p.order.getD j 0] }, j + 1) := by simp only [Pk.pick]; rw [q1, if_neg (by omega), if_neg (by omega)]
        refine rS (rD [(4, 10)] (by decide +kernel) (by decide +kernel) (n := 15) rfl ?_)
        refine qM U J (qM U J (qN U J (qF U J fa255_3 (qL U J gA ((p171.1 _ _).trans (pk8 (A := []) hg.1)) ?_))))
        refine qM U J (qN U J (qF U J fa255_2 (qM U J (qC U J (CR.mono (touch_cr H (A := [nv p.t, nv p.count]) hb2 hg.1 (show j < 6 by have := hg.2.2.1; omega)) ?_)))))
        rintro v ⟨hh2, cc2⟩ ⟨rfl, hb3, hK3⟩
        have hml : (moved p.order j).length = 6 := by rw [moved_len (by have := hg.2.2.1; have := hg.1; omega)]; exact hg.1
        refine q1_ U J a171 J (qX U rfl rfl a171 a171 (hS2.move (fun z hz => by have q9 : z ≠ b := fun e => hbo (e ▸ hz); have := ha1 z hz; rw [T.get_set, if_neg oA]; exact hK3.2 z oA (by simpa using q9))) ((T.get_set _ _ _ _).trans (if_pos rfl)) rfl oA oA ?_)
        intro a2 cp3 h4 hS4 hO4 hF4
        have hb4 := (hF4 b (by omega) hbo).trans ((T.get_set _ _ _ _).trans ((if_neg (by omega)).trans hb3))
        have hcc2 : cc1 + 2 + 2 + 15 ≤ cc2 := hK3.1
        refine qN U J (qF U J fa255_3 (qW U rfl rfl gA p171 rfl rfl (by simp [hml]) ?_))
        refine ro_nilp ?_ ?_
        · exact all1 (pair_load U rfl rfl rfl rfl ((heapAt_old rfl (by omega)).trans hb3) ((p171.1 _ _).trans (pk8 (A := []) hml)) rfl (same_slice _ _ _))
        refine kN (sg 1 J (qA U J (nK (rR (k_bloR (kR (kR (k_bloR (kR (f_1 U J (.inl J) J ?_))))))))))
        rw [hu]
        refine ⟨⟨rfl, hR4.move ?_, a2, ⟨⟨hml, fun x hx => hg.2.1 x (moved_mem (by have := hg.2.2.1; have := hg.1; omega) hx), hg.2.2.1, hct, by simp; omega, ?_, fun i hi => moved_getD (t := p.t) (by have := hg.1; omega) oA (fun i hi => hg.2.2.2.2.2.2.1 i hi) hi, fun q => by dsimp only at q; omega⟩, cp3, ?_, ?_⟩, fun z hz => by have := hO4 z hz; dsimp only; omega⟩, ?_⟩
        · dsimp only; rw [T.get_set, if_neg hne, hF4 r (by omega) hno, T.get_set, if_neg (by omega)]; exact hK3.2 r (by omega) (by simpa using hne)
        · intro x hx; rcases List.mem_append.mp hx with q | q
          · exact hg.2.2.2.2.2.1 x q
          · simp only [List.mem_singleton] at q; subst q; exact hg.2.2.2.2.2.2.1 j (by omega)
        · dsimp only; rw [T.get_set, if_pos rfl, pk8_set hml]; simp
        · dsimp only; rw [List.map_append, List.length_append]; exact hS4.move (fun z hz => by rw [T.get_set, if_neg (by have := hO4 z hz; omega)])
        · exact ((((hK2.weak (by simp)).up (c3 := cc1 + 2 + 2 + 15) (by omega)).call hK3 (fun x hx => .inr (by simp at hx; simp [hx]))).app2 hF4 (fun z hz => .inr (by simp [hz])) (by omega) (by omega) (by omega)).set (.inr (by simp))
      · try simp only [dz, dy] at ht0
        refine rK (kO (kN (rg 2 J (qP U J J wA ?_))))
        refine qM U J (nK ?_)
        refine ⟨p.t - (j + 1), by omega, j + 1, rfl, by omega, by omega, ?_, Ho U ⟨rfl, rfl, rfl, rfl, trivial⟩, hR4, hK2.up oA⟩
        have htt : t = true := by cases t with | true => rfl | false => (simp [num] at ht0)
        subst htt
        rw [ones_at hon (show j ≤ j + 1 by omega) hjl, hd1, Nat.add_sub_cancel_left]; rfl
  · try simp only [dz, dy] at hjt
    have hP9 := hP.move (g' := h2.get) (fun z hz => hK.2 z (by rcases hz with rfl | hz; omega; have := ha1 z hz; omega) (by simp; rintro rfl; rcases hz with hz | hz; exact hne hz; exact hno hz))
    refine r_exit (kE (kE (kB (kN (sg 3 J (qM U J (qC U J (CR.mono (pkFail_cr H hP9) ?_))))))))
    rintro v ⟨hh3, cc3⟩ ⟨rfl, hPf, hKf⟩
    refine qA U J (nK (rR (f_1 U J (.inl J) J ?_)))
    have q0 : j = p.t := by omega
    subst q0
    have hu : p.pick (all.drop at_) = .error 25 := by simp only [Pk.pick]; rw [if_pos hon]
    rw [hu]
    exact ⟨⟨rfl, fun q => absurd q (by decide), ⟨_, hPf⟩, _, by omega, hR2.move (hKf.2 r (by omega) (by simpa using hne))⟩, ((hK.weak (by simp)).up (by omega)).call hKf (fun x hx => .inr (by simp at hx; simp [hx])) |>.up (by omega)⟩
omit H in
theorem Pk.done_count {p : Pk} (hg : p.good) (hd : p.done = false) (h0 : p.count ≠ 0) : p.picks.length < p.count := by
  have h1 := hg.2.2.2.2.1
  rcases Nat.lt_or_ge p.picks.length p.count with q | q
  · exact q
  · have e : p.picks.length = p.count := by omega
    simp [Pk.done, e] at hd; omega
theorem pkStep_cr {h : Heap} {c b r dr at_ : Nat} {all : List Bool} {p : Pk} {a : Option Addr} (hP : PkR p b a h.get) (hR : BitR all dr at_ (h.get r)) (hc : b < c ∧ r < c ∧ ∀ z ∈ own a, z < c) (hd : p.done = false) :
    CR Tryz.prog ov 261 [ptr b, ptr r] ⟨h, c⟩ (fun v st => (match p.step (all.drop at_) with
      | .ok (p', n) => v = nv 0 ∧ BitR all dr (at_ + n) (st.heap.get r) ∧ ∃ a', PkR p' b a' st.heap.get ∧ ∀ z ∈ own a', z ∈ own a ∨ c ≤ z ∧ z < st.ctr
      | .error e => v = nv e ∧ (e = 3 → BitR all dr at_ (st.heap.get r) ∧ PkR p b a st.heap.get) ∧ (∃ w, PkW w p b a st.heap.get) ∧ ∃ k, at_ ≤ k ∧ BitR all dr k (st.heap.get r)) ∧ Keep (r :: b :: own a) h c st) := by
  obtain ⟨hb1, hr1, ha1⟩ := id hc
  obtain ⟨hg, cp, hb, hS⟩ := id hP
  have hne : r ≠ b := hR.ne hb (by dsimp only; decide)
  have hno := hR.own hS (by decide)
  have hat : 8 * dr ≤ at_ ∧ at_ ≤ all.length := by obtain ⟨s, _, _, _, h3, h4, _⟩ := hR; exact ⟨h3, h4⟩
  by_cases h0 : p.count = 0
  · have hH := fun c' (q : c ≤ c') => pkHead_cr H (c := c') hP hR ⟨by omega, by omega, fun z hz => by have := ha1 z hz; omega⟩ h0
    have es : p.step (all.drop at_) = p.head (all.drop at_) := by simp only [Pk.step, if_pos h0]
    rw [es]
    cases hs : p.head (all.drop at_) with
    | ok x =>
      obtain ⟨p', n⟩ := x
      simp only [hs] at hH
      refine e_2 Tryz.func261 rfl (H _ (by decide)) Tryz.ntmps261 (by decide) ?_
      intro env U
      refine sg 1 J (qA U J (nK (rS (rB (sg 11 J (qM U J (qB U J J (nq210 _) (qM U J (qG U J J J J (qM U J (qG U J J J J (qB U J J (nq36 _) (qQ U J J J (J) (qM U J (qG U J J J J (qM U J (qG U J J J J (qC U J (CR.mono (pkDone_cr H hP) ?_)))))))))))))))))))
      rintro v ⟨hh1, cc1⟩ ⟨rfl, rfl, hk⟩
      try dsimp only at hk
      refine qQ U J J J (J) (qA U J (nK (rF U rfl (by simp [hd]) ?_)))
      refine sg 5 J (qM U J (qN U J (qF U J fa255_4 (qL U J aA ((p4.1 _ _).trans (pk9 (A := []) hg.1)) ?_))))
      refine qA U J (nK (rF U J dA ?_))
      refine rK (kO (kN (sg 3 J (qM U J (qC U J (CR.mono (at_cr H hR) ?_))))))
      rintro v ⟨hh2, cc2⟩ ⟨rfl, rfl, hk⟩
      try dsimp only at hk
      refine qA U J (nK (sg 3 J (qM U J (q_makeFunc U J J (qA U J (nK (rS (sg 5 J (qM U J (qN U J (qF U J fa255_1 (qL U J aA ((p3.1 _ _).trans J) ?_))))))))))))
      refine qB U J J J (nK (rT U rfl (by simp [h0]) ?_))
      refine rg 3 J (qM U J (q_makeFunc U J J (qA U J (nK (sg 4 J (qM U J (qM U J (q_callV U J J (CR.mono (hH _ oA) ?_)))))))))
      rintro v ⟨hh3, cc3⟩ ⟨⟨rfl, hR2, hP2⟩, hK⟩
      refine qA U J (nK (rS (sg 2 J (qM U J (qB U J J J (nK (rF U J dA ?_)))))))
      refine rK (kN (sg 2 J (qM U J (qA U J (nK (rR (f_1 U J (.inl J) J ?_)))))))
      exact ⟨⟨rfl, hR2, a, hP2, fun z hz => .inl hz⟩, ((hK.base (by omega)).weak (by simp)).up (by omega)⟩
    | error e =>
      simp only [hs] at hH
      refine e_2 Tryz.func261 rfl (H _ (by decide)) Tryz.ntmps261 (by decide) ?_
      intro env U
      refine sg 1 J (qA U J (nK (rS (rB (sg 11 J (qM U J (qB U J J (nq210 _) (qM U J (qG U J J J J (qM U J (qG U J J J J (qB U J J (nq36 _) (qQ U J J J (J) (qM U J (qG U J J J J (qM U J (qG U J J J J (qC U J (CR.mono (pkDone_cr H hP) ?_)))))))))))))))))))
      rintro v ⟨hh1, cc1⟩ ⟨rfl, rfl, hk⟩
      try dsimp only at hk
      refine qQ U J J J (J) (qA U J (nK (rF U rfl (by simp [hd]) ?_)))
      refine sg 5 J (qM U J (qN U J (qF U J fa255_4 (qL U J aA ((p4.1 _ _).trans (pk9 (A := []) hg.1)) ?_))))
      refine qA U J (nK (rF U J dA ?_))
      refine rK (kO (kN (sg 3 J (qM U J (qC U J (CR.mono (at_cr H hR) ?_))))))
      rintro v ⟨hh2, cc2⟩ ⟨rfl, rfl, hk⟩
      try dsimp only at hk
      refine qA U J (nK (sg 3 J (qM U J (q_makeFunc U J J (qA U J (nK (rS (sg 5 J (qM U J (qN U J (qF U J fa255_1 (qL U J aA ((p3.1 _ _).trans J) ?_))))))))))))
      refine qB U J J J (nK (rT U rfl (by simp [h0]) ?_))
      refine rg 3 J (qM U J (q_makeFunc U J J (qA U J (nK (sg 4 J (qM U J (qM U J (q_callV U J J (CR.mono (hH _ oA) ?_)))))))))
      rintro v ⟨hh3, cc3⟩ ⟨⟨rfl, hsh, hPw, k, hk3, hR2⟩, hK⟩
      refine qA U J (nK (rS (sg 2 J (qM U J (qB U J J J (nK ?_))))))
      refine rC U rfl (fun he => ?_) (fun he => ?_)
      · try simp only [dz, dy] at he
        have he3 : e = 3 := by omega
        obtain ⟨hR3, hP3⟩ := hsh he3
        have hcc := hK.1
        dsimp only at hcc
        refine rg 3 J (qM U J (qM U J (qC U J (CR.mono (seek_cr H hR3 hat.1 hat.2) ?_))))
        rintro v ⟨hh4, cc4⟩ ⟨rfl, hR4, hK4⟩
        refine nK (sg 2 J (qM U J (qA U J (nK (rR (f_1 U J (.inl J) J ?_))))))
        exact ⟨⟨rfl, fun _ => ⟨hR4, hP3.move (fun z hz => hK4.2 z (by rcases hz with rfl | hz; omega; have := ha1 z hz; omega) (by simp; rintro rfl; rcases hz with hz | hz; exact hne hz; exact hno hz))⟩, ⟨_, hP3.move (fun z hz => hK4.2 z (by rcases hz with rfl | hz; omega; have := ha1 z hz; omega) (by simp; rintro rfl; rcases hz with hz | hz; exact hne hz; exact hno hz))⟩, _, Nat.le_refl _, hR4⟩, ((((hK.base (by omega)).weak (by simp)).up (by omega)).call hK4 (fun x hx => .inr (by simp at hx; simp [hx]))).up (by omega)⟩
      · try simp only [dz, dy] at he
        refine rK (kN (sg 2 J (qM U J (qA U J (nK (rR (f_1 U J (.inl J) J ?_)))))))
        exact ⟨⟨rfl, fun q => absurd q (by omega), hPw, k, hk3, hR2⟩, ((hK.base (by omega)).weak (by simp)).up (by omega)⟩
  · have hH := fun c' (q : c ≤ c') => pkPick_cr H (c := c') hP hR ⟨by omega, by omega, fun z hz => by have := ha1 z hz; omega⟩ (Pk.done_count hg hd h0)
    have es : p.step (all.drop at_) = p.pick (all.drop at_) := by simp only [Pk.step, if_neg h0]
    rw [es]
    cases hs : p.pick (all.drop at_) with
    | ok x =>
      obtain ⟨p', n⟩ := x
      simp only [hs] at hH
      refine e_2 Tryz.func261 rfl (H _ (by decide)) Tryz.ntmps261 (by decide) ?_
      intro env U
      refine sg 1 J (qA U J (nK (rS (rB (sg 11 J (qM U J (qB U J J (nq210 _) (qM U J (qG U J J J J (qM U J (qG U J J J J (qB U J J (nq36 _) (qQ U J J J (J) (qM U J (qG U J J J J (qM U J (qG U J J J J (qC U J (CR.mono (pkDone_cr H hP) ?_)))))))))))))))))))
      rintro v ⟨hh1, cc1⟩ ⟨rfl, rfl, hk⟩
      try dsimp only at hk
      refine qQ U J J J (J) (qA U J (nK (rF U rfl (by simp [hd]) ?_)))
      refine sg 5 J (qM U J (qN U J (qF U J fa255_4 (qL U J aA ((p4.1 _ _).trans (pk9 (A := []) hg.1)) ?_))))
      refine qA U J (nK (rF U J dA ?_))
      refine rK (kO (kN (sg 3 J (qM U J (qC U J (CR.mono (at_cr H hR) ?_))))))
      rintro v ⟨hh2, cc2⟩ ⟨rfl, rfl, hk⟩
      try dsimp only at hk
      refine qA U J (nK (sg 3 J (qM U J (q_makeFunc U J J (qA U J (nK (rS (sg 5 J (qM U J (qN U J (qF U J fa255_1 (qL U J aA ((p3.1 _ _).trans J) ?_))))))))))))
      refine qB U J J J (nK (rF U rfl (by simp [h0]) ?_))
      refine rK (kN (sg 4 J (qM U J (qM U J (q_callV U J J (CR.mono (hH _ oA) ?_))))))
      rintro v ⟨hh3, cc3⟩ ⟨⟨rfl, hR2, a', hP2, hO2⟩, hK⟩
      refine qA U J (nK (rS (sg 2 J (qM U J (qB U J J J (nK (rF U J dA ?_)))))))
      refine rK (kN (sg 2 J (qM U J (qA U J (nK (rR (f_1 U J (.inl J) J ?_)))))))
      exact ⟨⟨rfl, hR2, a', hP2, fun z hz => .inr (by have := hO2 z hz; dsimp only at *; omega)⟩, ((hK.base (by omega)).weak (by simp)).up (by omega)⟩
    | error e =>
      simp only [hs] at hH
      refine e_2 Tryz.func261 rfl (H _ (by decide)) Tryz.ntmps261 (by decide) ?_
      intro env U
      refine sg 1 J (qA U J (nK (rS (rB (sg 11 J (qM U J (qB U J J (nq210 _) (qM U J (qG U J J J J (qM U J (qG U J J J J (qB U J J (nq36 _) (qQ U J J J (J) (qM U J (qG U J J J J (qM U J (qG U J J J J (qC U J (CR.mono (pkDone_cr H hP) ?_)))))))))))))))))))
      rintro v ⟨hh1, cc1⟩ ⟨rfl, rfl, hk⟩
      try dsimp only at hk
      refine qQ U J J J (J) (qA U J (nK (rF U rfl (by simp [hd]) ?_)))
      refine sg 5 J (qM U J (qN U J (qF U J fa255_4 (qL U J aA ((p4.1 _ _).trans (pk9 (A := []) hg.1)) ?_))))
      refine qA U J (nK (rF U J dA ?_))
      refine rK (kO (kN (sg 3 J (qM U J (qC U J (CR.mono (at_cr H hR) ?_))))))
      rintro v ⟨hh2, cc2⟩ ⟨rfl, rfl, hk⟩
      try dsimp only at hk
      refine qA U J (nK (sg 3 J (qM U J (q_makeFunc U J J (qA U J (nK (rS (sg 5 J (qM U J (qN U J (qF U J fa255_1 (qL U J aA ((p3.1 _ _).trans J) ?_))))))))))))
      refine qB U J J J (nK (rF U rfl (by simp [h0]) ?_))
      refine rK (kN (sg 4 J (qM U J (qM U J (q_callV U J J (CR.mono (hH _ oA) ?_))))))
      rintro v ⟨hh3, cc3⟩ ⟨⟨rfl, hsh, hPw, k, hk3, hR2⟩, hK⟩
      refine qA U J (nK (rS (sg 2 J (qM U J (qB U J J J (nK ?_))))))
      refine rC U rfl (fun he => ?_) (fun he => ?_)
      · try simp only [dz, dy] at he
        have he3 : e = 3 := by omega
        obtain ⟨hR3, hP3⟩ := hsh he3
        have hcc := hK.1
        dsimp only at hcc
        refine rg 3 J (qM U J (qM U J (qC U J (CR.mono (seek_cr H hR3 hat.1 hat.2) ?_))))
        rintro v ⟨hh4, cc4⟩ ⟨rfl, hR4, hK4⟩
        refine nK (sg 2 J (qM U J (qA U J (nK (rR (f_1 U J (.inl J) J ?_))))))
        exact ⟨⟨rfl, fun _ => ⟨hR4, hP3.move (fun z hz => hK4.2 z (by rcases hz with rfl | hz; omega; have := ha1 z hz; omega) (by simp; rintro rfl; rcases hz with hz | hz; exact hne hz; exact hno hz))⟩, ⟨_, hP3.move (fun z hz => hK4.2 z (by rcases hz with rfl | hz; omega; have := ha1 z hz; omega) (by simp; rintro rfl; rcases hz with hz | hz; exact hne hz; exact hno hz))⟩, _, Nat.le_refl _, hR4⟩, ((((hK.base (by omega)).weak (by simp)).up (by omega)).call hK4 (fun x hx => .inr (by simp at hx; simp [hx]))).up (by omega)⟩
      · try simp only [dz, dy] at he
        refine rK (kN (sg 2 J (qM U J (qA U J (nK (rR (f_1 U J (.inl J) J ?_)))))))
        exact ⟨⟨rfl, fun q => absurd q (by omega), hPw, k, hk3, hR2⟩, ((hK.base (by omega)).weak (by simp)).up (by omega)⟩
end
end Go.Proofs.YtegjkhgaoabfcaaGreat
