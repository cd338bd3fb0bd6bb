/- Part 9 (a part of the proof of UnstreamWith; no condition). -/
import Derived.Test.YtegjkhgaoabfcaaGreatWh
set_option linter.unusedSimpArgs false
set_option linter.unusedVariables false
set_option maxRecDepth 10000
namespace Go.Proofs.YtegjkhgaoabfcaaGreat
open Go.AE
theorem txt_app (a b : List Nat) : txt (a ++ b) = txt a ++ txt b := by
  apply ByteArray.ext; simp [txt, ByteArray.data_append]
theorem addS {P : Program} {t : TypeId} (a b : List Nat) (h : a.length + b.length ≤ 9223372036854775807) : evBin P .add t (.string (txt a)) (.string (txt b)) = some (.string (txt (a ++ b))) := by
  simp only [evBin, txt_size, if_pos h, txt_app]
theorem txt_extract (l : List Nat) (a b : Nat) : (txt l).extract a b = txt ((l.drop a).take (b - a)) := by
  apply ByteArray.ext; simp [txt, ByteArray.data_extract, List.extract_eq_take_drop]
def zb (b : Bool) : Nat := if b then 49 else 48
def zl (l : List Bool) : List Nat := l.map zb
abbrev zs (l : List Bool) : ByteArray := txt (zl l)
theorem zl_app (a b : List Bool) : zl (a ++ b) = zl a ++ zl b := List.map_append
theorem zl_len (a : List Bool) : (zl a).length = a.length := List.length_map _
theorem zl_get {l : List Bool} {i : Nat} {t : Bool} (h : l[i]? = some t) : (zl l)[i]? = some (zb t) := by rw [zl, List.getElem?_map, h]; rfl
theorem zb_nat (t : Bool) : (UInt8.ofNat (zb t)).toNat = 48 + t.toNat := by cases t <;> rfl
def bitsN : Nat → Nat → List Bool
  | 0, _ => []
  | n + 1, v => bitsN n (v / 2) ++ [v % 2 == 1]
theorem bitsN_len : ∀ (n v : Nat), (bitsN n v).length = n
  | 0, _ => rfl
  | n + 1, v => by rw [bitsN, List.length_append, bitsN_len n]; rfl
theorem bitsN_cons : ∀ (n v : Nat), bitsN (n + 1) v = (v / 2 ^ n % 2 == 1) :: bitsN n v
  | 0, v => by simp [bitsN]
  | n + 1, v => by
    rw [bitsN, bitsN_cons n (v / 2), Nat.div_div_eq_div_mul, bitsN, Nat.pow_succ, Nat.mul_comm (2 ^ n) 2]; rfl
theorem byteBits_eq (b : UInt8) : byteBits b = bitsN 8 b.toNat := by
  have h : ∀ m : Fin 256, [m.val.testBit 7, m.val.testBit 6, m.val.testBit 5, m.val.testBit 4, m.val.testBit 3, m.val.testBit 2, m.val.testBit 1, m.val.testBit 0] = bitsN 8 m.val := by decide +kernel
  exact h ⟨b.toNat, b.toNat_lt⟩
section
variable {P : Program} {ov : OvT} {ops : Array Oper} {c0 d n : Nat} {ty : TypeId} {pos : String} {after : Array Edge} {l : List Oper} {i : Nat} {env : Env} {w : List (Nat × Value)} {h : Heap} {c : Nat} {sn : List (Nat × Heap)} {md : Heap} {Q : RS → Prop}
theorem qT {t : TypeId} {x : Operand} {lo hi : Option Operand} {s : List Nat} (a b : Nat) (hl : env.length = n) (hx : lkO n w x = some (.string (txt s))) (ht : P.underlying t = some .string) (hb : lkB n w hi (s.length : Nat) = some (b : Int)) (ha : lkB n w lo (0 : Nat) = some (a : Int)) (hr : a ≤ b ∧ b ≤ s.length)
    (k : RO P ov ops c0 l (i + 1) ⟨E env ((d, .string (txt ((s.drop a).take (b - a)))) :: w), ⟨h, c⟩, sn, md⟩ Q) :
    RO P ov ops c0 (⟨some d, .slice t x lo hi none, ty, pos, after, none⟩ :: l) i ⟨E env w, ⟨h, c⟩, sn, md⟩ Q := by
  refine q_sliceS hl hx ht (by rw [txt_size]; exact hb) ha ⟨by omega, by omega, by rw [txt_size]; omega⟩ ?_
  have e : (txt s).extract (a : Int).toNat (b : Int).toNat = txt ((s.drop a).take (b - a)) := txt_extract s a b
  rw [e]; exact k
end
section
variable {ov : OvT} (H : OvH ov)
include H
theorem rUnit_cr {h : Heap} {c : Nat} {u : Int} :
    CR Tryz.prog ov 13 [iv u] ⟨h, c⟩ (fun v st => v = .bool (24 ≤ u && u ≤ 100000) ∧ Same h c st) := by
  refine e_1 Tryz.func13 rfl (H _ (by decide)) Tryz.ntmps13 (by decide) ?_
  intro env hl
  refine sg 1 rfl (qA hl rfl (nK (sg 7 rfl (qM hl rfl (qB hl rfl rfl rfl (qM hl rfl ?_))))))
  refine q_case hl (rfl : lk _ _ 5 = _) (fun hg => ?_) (fun hg => ?_)
  · have hg_ := hg
    try simp only [dz] at hg_
    refine qG hl rfl rfl rfl hg (qM hl rfl (qG hl rfl rfl rfl hg (qB hl rfl rfl rfl (qQ hl rfl rfl rfl (if_pos hg) (qA hl rfl (nK (rR (f_1 hl rfl (.inl rfl) rfl ?_))))))))
    refine ⟨?_, rfl, by simp <;> omega⟩
    have q : 24 ≤ u := by omega
    simp [q]
  · have hg_ := hg
    try simp only [dz] at hg_
    refine qS hl rfl rfl rfl rfl (by rw [hg]; decide) ?_
    refine qS hl rfl rfl rfl rfl (by rw [hg]; decide) ?_
    refine qQ hl rfl rfl rfl (if_neg (by rw [hg]; decide)) ?_
    refine qA hl rfl (nK (rR (f_1 hl rfl (.inl rfl) rfl ?_)))
    refine ⟨?_, rfl, by simp <;> omega⟩
    have q : ¬ 24 ≤ u := by omega
    simp [q]
theorem rField_cr {h : Heap} {c v n : Nat} (hv : v < 4294967296) (hn : n ≤ 32) :
    CR Tryz.prog ov 110 [uv v, nv n] ⟨h, c⟩ (fun w st => w = .string (zs (bitsN n v)) ∧ Same h c st) := by
  refine e_2 Tryz.func110 rfl (H _ (by decide)) Tryz.ntmps110 (by decide) ?_
  intro env hl
  refine sg 1 rfl (qA hl rfl (nK (sg 1 rfl (qA hl rfl (nK (rS (sg 2 rfl (qM hl rfl (qM hl rfl (nK (rB ?_)))))))))))
  refine rL (fun m env' s' => ∃ j, m = n - j ∧ j ≤ n ∧ Hd 21 [(0, uv (v / 2 ^ j)), (6, nv n), (7, nv j), (5, .string (zs (bitsN j v)))] env' ∧ s'.heap = h ∧ c ≤ s'.ctr) n ?_ ?_
  · exact ⟨0, rfl, Nat.zero_le _, Ho hl ⟨by rw [Nat.pow_zero, Nat.div_one]; rfl, rfl, rfl, rfl, trivial⟩, rfl, by dsimp only; omega⟩
  rintro m _ ⟨h2, c2⟩ ⟨j, rfl, hj, ⟨env, hl, rfl⟩, he, hc2⟩
  dsimp only at he hc2
  subst he
  refine sg 1 rfl (qB hl rfl rfl rfl (nK (rS ?_)))
  refine rC hl rfl (fun hjn => ?_) (fun hjn => ?_)
  · try simp only [dz, dy] at hjn
    obtain ⟨y, hy⟩ : ∃ y, y = v / 2 ^ j := ⟨_, rfl⟩
    have hylt : y < 4294967296 := by rw [hy]; exact Nat.lt_of_le_of_lt (Nat.div_le_self _ _) hv
    rw [← hy]
    have hb : bitsN (j + 1) v = (y % 2 == 1) :: bitsN j v := by rw [bitsN_cons, ← hy]
    have hy2 : y / 2 = v / 2 ^ (j + 1) := by rw [hy, Nat.div_div_eq_div_mul, Nat.pow_succ]
    have hzl : zl ((y % 2 == 1) :: bitsN j v) = [zb (y % 2 == 1)] ++ zl (bitsN j v) := rfl
    refine rK (kN (rS (rB (sg 9 rfl (qM hl rfl (q_rem hl rfl rfl ⟨by omega, by omega⟩ ?_))))))
    refine qM hl rfl (q_rem hl rfl rfl ⟨by omega, by omega⟩ ?_)
    refine qP hl rfl rfl (by first | exact wI (by omega) | exact wU (by omega) | exact wB (by omega) | exact wL (by omega) | rfl) ?_
    refine qT (s := [48, 49]) (y % 2) (y % 2 + 1) hl rfl Tryz.underlying9 rfl rfl ⟨by omega, by simp; omega⟩ ?_
    have hsl : (([48, 49] : List Nat).drop (y % 2)).take (y % 2 + 1 - y % 2) = [zb (y % 2 == 1)] := by rcases Nat.mod_two_eq_zero_or_one y with q | q <;> rw [q] <;> rfl
    simp only [hsl]
    refine qM hl rfl (qB hl rfl rfl (addS _ _ (by rw [zl_len, bitsN_len]; simp; omega)) ?_)
    refine qA hl rfl (nK (rg 3 rfl (qM hl rfl (q_quo hl rfl rfl ⟨by omega, by omega⟩ (by first | exact wI (by omega) | exact wU (by omega) | exact wB (by omega) | exact wL (by omega) | rfl) ?_))))
    refine qA hl rfl (rN (kO (kN (rg 2 rfl (qP hl rfl rfl (by first | exact wI (by omega) | exact wU (by omega) | exact wB (by omega) | exact wL (by omega) | rfl) ?_)))))
    refine qM hl rfl (nK ?_)
    exact ⟨n - (j + 1), by omega, j + 1, rfl, by omega, Ho hl ⟨by rw [← hy2]; simp [lk, Nat.beq, Nat.blt, Nat.ble], rfl, rfl, by rw [hb]; rfl, trivial⟩, rfl, by dsimp only; omega⟩
  · try simp only [dz, dy] at hjn
    refine r_exit (kE (kE (kB (kN (sg 2 rfl (qM hl rfl (qA hl rfl (nK (rR (f_1 hl rfl (.inl rfl) rfl ?_))))))))))
    have ej : j = n := by omega
    subst ej
    exact ⟨rfl, rfl, by dsimp only; omega⟩
theorem rNumber_cr {h : Heap} {c : Nat} {L : List Bool} (hL : L.length ≤ 32) :
    CR Tryz.prog ov 68 [.string (zs L)] ⟨h, c⟩ (fun w st => w = uv (num L) ∧ Same h c st) := by
  have hsz : (zs L).size = L.length := by rw [txt_size, zl_len]
  refine e_1 Tryz.func68 rfl (H _ (by decide)) Tryz.ntmps68 (by decide) ?_
  intro env hl
  refine sg 1 rfl (qA hl rfl (nK (sg 1 rfl (qA hl rfl (nK (rS (sg 1 rfl (qA hl rfl (nK (rB ?_))))))))))
  refine rL (fun m env' s' => ∃ j, m = L.length - j ∧ j ≤ L.length ∧ Hd 20 [(0, .string (zs L)), (4, nv j), (3, uv (num (L.take j)))] env' ∧ s'.heap = h ∧ c ≤ s'.ctr) L.length ?_ ?_
  · exact ⟨0, rfl, Nat.zero_le _, Ho hl ⟨rfl, rfl, rfl, trivial⟩, rfl, by dsimp only; omega⟩
  rintro m _ ⟨h2, c2⟩ ⟨j, rfl, hj, ⟨env, hl, rfl⟩, he, hc2⟩
  dsimp only at he hc2
  subst he
  refine rS (sg 4 rfl (qM hl rfl (qM hl rfl (qK hl rfl Tryz.underlying9 ?_))))
  rw [hsz]
  refine qB hl rfl rfl rfl (nK ?_)
  refine rC hl rfl (fun hjn => ?_) (fun hjn => ?_)
  · try simp only [dz, dy] at hjn
    obtain ⟨t, ht⟩ : ∃ t, L[j]? = some t := ⟨_, List.getElem?_eq_getElem (by omega)⟩
    have htk : num (L.take (j + 1)) = 2 * num (L.take j) + t.toNat := by rw [List.take_add_one, ht]; exact num_snoc _ _
    have hlt := num_lt (L.take (j + 1)); rw [List.length_take, Nat.min_eq_left (by omega)] at hlt
    have hp : 2 ^ (j + 1) ≤ 2 ^ 32 := Nat.pow_le_pow_right (by omega) (by omega)
    have ht1 : t.toNat ≤ 1 := by cases t <;> decide
    refine rK (kN (rS (rB (rg 9 rfl (qM hl rfl (q_mul hl rfl rfl (by first | exact wI (by omega) | exact wU (by omega) | exact wB (by omega) | exact wL (by omega) | rfl) ?_))))))
    refine qM hl rfl (qM hl rfl (qJ hl rfl rfl Tryz.underlying9 (by omega) (txt_get (zl_get ht)) ?_))
    simp only [zb_nat]
    refine q_sub hl rfl rfl (m := ((t.toNat : Nat) : Int)) (by rw [wrapU8 (by omega) (by omega)]; omega) ?_
    refine qH hl rfl Tryz.underlying5 Tryz.underlying38 (by first | exact wI (by omega) | exact wU (by omega) | exact wB (by omega) | exact wL (by omega) | rfl) ?_
    refine qP hl rfl rfl (m := ((num (L.take (j + 1)) : Nat) : Int)) (by rw [wrapU32 (by omega) (by omega)]; omega) ?_
    refine qA hl rfl (rN (kO (kN (rg 3 rfl (qM hl rfl (qP hl rfl rfl (by first | exact wI (by omega) | exact wU (by omega) | exact wB (by omega) | exact wL (by omega) | rfl) ?_))))))
    refine qA hl rfl (nK ?_)
    exact ⟨L.length - (j + 1), by omega, j + 1, rfl, by omega, Ho hl ⟨rfl, rfl, rfl, trivial⟩, rfl, by dsimp only; omega⟩
  · try simp only [dz, dy] at hjn
    refine r_exit (kE (kE (kB (kN (sg 2 rfl (qM hl rfl (qA hl rfl (nK (rR (f_1 hl rfl (.inl rfl) rfl ?_))))))))))
    have ej : j = L.length := by omega
    subst ej
    rw [List.take_length]
    exact ⟨rfl, rfl, by dsimp only; omega⟩
theorem rBits_cr {h : Heap} {c : Nat} {s : ByteArray} (hs : s.size ≤ 1000000) :
    CR Tryz.prog ov 66 [.string s] ⟨h, c⟩ (fun w st => w = .string (zs (bitsL s.data.toList)) ∧ Same h c st) := by
  have hsd : s.data.toList.length = s.size := Array.length_toList
  refine e_1 Tryz.func66 rfl (H _ (by decide)) Tryz.ntmps66 (by decide) ?_
  intro env hl
  refine sg 1 rfl (qA hl rfl (nK (sg 1 rfl (qA hl rfl (nK (rS (sg 1 rfl (qA hl rfl (nK (rB ?_))))))))))
  refine rL (fun m env' s' => ∃ j, m = s.size - j ∧ j ≤ s.size ∧ Hd 19 [(0, .string s), (4, nv j), (3, .string (zs (bitsL (s.data.toList.take j))))] env' ∧ s'.heap = h ∧ c ≤ s'.ctr) s.size ?_ ?_
  · exact ⟨0, rfl, Nat.zero_le _, Ho hl ⟨rfl, rfl, rfl, trivial⟩, rfl, by dsimp only; omega⟩
  rintro m _ ⟨h2, c2⟩ ⟨j, rfl, hj, ⟨env, hl, rfl⟩, he, hc2⟩
  dsimp only at he hc2
  subst he
  refine rS (sg 4 rfl (qM hl rfl (qM hl rfl (qK hl rfl Tryz.underlying9 (qB hl rfl rfl rfl (nK ?_))))))
  refine rC hl rfl (fun hjn => ?_) (fun hjn => ?_)
  · try simp only [dz, dy] at hjn
    obtain ⟨x, hx⟩ : ∃ x, s.data.toList[j]? = some x := ⟨_, List.getElem?_eq_getElem (by omega)⟩
    have hx' : s[((j : Nat) : Int).toNat]? = some x := by rw [Array.getElem?_toList] at hx; rw [← hx]; rfl
    have hxl := x.toNat_lt
    have htk : bitsL (s.data.toList.take (j + 1)) = bitsL (s.data.toList.take j) ++ bitsN 8 x.toNat := by rw [List.take_add_one, hx, ← byteBits_eq]; simp [bitsL]
    refine rK (kN (rS (rB (rg 8 rfl (qM hl rfl (qM hl rfl (qM hl rfl (qJ hl rfl rfl Tryz.underlying9 (by omega) hx' ?_))))))))
    refine qH hl rfl Tryz.underlying5 Tryz.underlying38 (by first | exact wI (by omega) | exact wU (by omega) | exact wB (by omega) | exact wL (by omega) | rfl) ?_
    refine qC hl rfl (CR.mono (rField_cr H (n := 8) (by omega) (by omega)) ?_)
    rintro v ⟨hh1, cc1⟩ ⟨rfl, rfl, hk⟩
    try dsimp only at hk
    refine qB hl rfl rfl (addS _ _ (by rw [zl_len, zl_len, bitsN_len, bitsL_length, List.length_take]; omega)) ?_
    refine qA hl rfl (rN (kO (kN (rg 3 rfl (qM hl rfl (qP hl rfl rfl (by first | exact wI (by omega) | exact wU (by omega) | exact wB (by omega) | exact wL (by omega) | rfl) ?_))))))
    refine qA hl rfl (nK ?_)
    exact ⟨s.size - (j + 1), by omega, j + 1, rfl, by omega, Ho hl ⟨rfl, rfl, by rw [htk]; exact congrArg (fun l => some (Value.string (txt l))) (zl_app _ _).symm, trivial⟩, rfl, by dsimp only at *; omega⟩
  · try simp only [dz, dy] at hjn
    refine r_exit (kE (kE (kB (kN (sg 2 rfl (qM hl rfl (qA hl rfl (nK (rR (f_1 hl rfl (.inl rfl) rfl ?_))))))))))
    have ej : j = s.size := by omega
    subst ej
    rw [List.take_of_length_le (by omega)]
    exact ⟨rfl, rfl, by dsimp only; omega⟩
def refRow (x : Nat) : Nat := if 2147483648 ≤ x then ((x - 2147483648) * 2) ^^^ 79764919 else x * 2
def refB : Nat → Nat → Nat
  | 0, x => x
  | n + 1, x => refB n (refRow x)
omit H in
theorem refRow_eq {x : Nat} (h : x < 4294967296) : refRow x = crcRow x := by
  simp only [refRow, crcRow]
  split
  · have h1 : x / 2147483648 = 1 := by omega
    have h2 : x * 2 % 4294967296 = (x - 2147483648) * 2 := by omega
    rw [h1, h2, Nat.one_mul]
  · have h1 : x / 2147483648 = 0 := by omega
    have h2 : x * 2 % 4294967296 = x * 2 := by omega
    rw [h1, h2, Nat.zero_mul, Nat.xor_zero]
omit H in
theorem refB_eq : ∀ (n : Nat) {x : Nat}, x < 4294967296 → refB n x = crcB n x
  | 0, _, _ => rfl
  | n + 1, x, h => by simp only [refB, crcB]; rw [refRow_eq h]; exact refB_eq n (crcRow_lt h)
omit H in
theorem crcB_snoc (n x : Nat) : crcB (n + 1) x = crcRow (crcB n x) := by rw [crcB_add]; rfl
theorem rCrcBits_cr {h : Heap} {c x : Nat} (hx : x < 4294967296) :
    CR Tryz.prog ov 158 [uv x] ⟨h, c⟩ (fun w st => w = uv (crcB 8 x) ∧ Same h c st) := by
  refine e_1 Tryz.func158 rfl (H _ (by decide)) Tryz.ntmps158 (by decide) ?_
  intro env hl
  refine sg 1 rfl (qA hl rfl (nK (rS (sg 1 rfl (qM hl rfl (nK (rB ?_)))))))
  refine rL (fun m env' s' => ∃ j, m = 8 - j ∧ j ≤ 8 ∧ Hd 15 [(0, uv (crcB j x)), (3, nv j)] env' ∧ s'.heap = h ∧ c ≤ s'.ctr) 8 ?_ ?_
  · exact ⟨0, rfl, by omega, Ho hl ⟨rfl, rfl, trivial⟩, rfl, by dsimp only; omega⟩
  rintro m _ ⟨h2, c2⟩ ⟨j, rfl, hj, ⟨env, hl, rfl⟩, he, hc2⟩
  dsimp only at he hc2
  subst he
  refine sg 1 rfl (qB hl rfl rfl rfl (nK (rS ?_)))
  refine rC hl rfl (fun hjn => ?_) (fun hjn => ?_)
  · try simp only [dz, dy] at hjn
    obtain ⟨y, hy⟩ : ∃ y, y = crcB j x := ⟨_, rfl⟩
    have hylt : y < 4294967296 := by rw [hy]; exact crcB_lt _ hx
    rw [← hy]
    have hb : crcB (j + 1) x = refRow y := by rw [crcB_snoc, ← hy, refRow_eq hylt]
    refine rK (kN (rS (rB (sg 2 rfl (qM hl rfl (qB hl rfl rfl rfl (nK ?_)))))))
    refine rC hl rfl (fun hge => ?_) (fun hge => ?_)
    · try simp only [dz, dy] at hge
      refine rg 5 rfl (qM hl rfl (q_sub hl rfl rfl (by first | exact wI (by omega) | exact wU (by omega) | exact wB (by omega) | exact wL (by omega) | rfl) ?_))
      refine q_mul hl rfl rfl (m := (((y - 2147483648) * 2 : Nat) : Int)) (by rw [wrapU32 (by omega) (by omega)]; omega) ?_
      refine qB hl rfl rfl (xorU _ 79764919 (by omega) (by omega)) ?_
      refine qA hl rfl (rN (kO (kN (rg 2 rfl (qP hl rfl rfl (by first | exact wI (by omega) | exact wU (by omega) | exact wB (by omega) | exact wL (by omega) | rfl) ?_)))))
      refine qM hl rfl (nK ?_)
      exact ⟨8 - (j + 1), by omega, j + 1, rfl, by omega, Ho hl ⟨by rw [hb, refRow, if_pos (by omega)]; rfl, rfl, trivial⟩, rfl, by dsimp only; omega⟩
    · try simp only [dz, dy] at hge
      refine rg 3 rfl (qM hl rfl (q_mul hl rfl rfl (m := ((y * 2 : Nat) : Int)) (by rw [wrapU32 (by omega) (by omega)]; omega) ?_))
      refine qA hl rfl (rN (kO (kN (rg 2 rfl (qP hl rfl rfl (by first | exact wI (by omega) | exact wU (by omega) | exact wB (by omega) | exact wL (by omega) | rfl) ?_)))))
      refine qM hl rfl (nK ?_)
      exact ⟨8 - (j + 1), by omega, j + 1, rfl, by omega, Ho hl ⟨by rw [hb, refRow, if_neg (by omega)]; rfl, rfl, trivial⟩, rfl, by dsimp only; omega⟩
  · try simp only [dz, dy] at hjn
    refine r_exit (kE (kE (kB (kN (sg 2 rfl (qM hl rfl (qA hl rfl (nK (rR (f_1 hl rfl (.inl rfl) rfl ?_))))))))))
    have ej : j = 8 := by omega
    subst ej
    exact ⟨rfl, rfl, by dsimp only; omega⟩
omit H in
theorem xor_mul2 (a b : Nat) : (a ^^^ b) * 2 = (a * 2) ^^^ (b * 2) := by
  have := Nat.shiftLeft_xor_distrib (a := a) (b := b) (i := 1)
  simpa [Nat.shiftLeft_eq] using this
omit H in
theorem crcRow_xor {a b : Nat} (ha : a < 4294967296) (hb : b < 4294967296) : crcRow (a ^^^ b) = crcRow a ^^^ crcRow b := by
  have e1 : (a ^^^ b) / 2147483648 = a / 2147483648 ^^^ b / 2147483648 := by
    have := Nat.shiftRight_xor_distrib (a := a) (b := b) (i := 31)
    simpa [Nat.shiftRight_eq_div_pow] using this
  have e2 : ∀ x : Nat, x * 2 % 4294967296 = (x % 2147483648) * 2 := fun x => by omega
  have e3 : (a ^^^ b) % 2147483648 = a % 2147483648 ^^^ b % 2147483648 := by
    have := Nat.xor_mod_two_pow (a := a) (b := b) (n := 31)
    simpa using this
  have e4 : (a / 2147483648 ^^^ b / 2147483648) * 79764919 = (a / 2147483648 * 79764919) ^^^ (b / 2147483648 * 79764919) := by
    rcases (by omega : a / 2147483648 = 0 ∨ a / 2147483648 = 1) with q | q <;> rcases (by omega : b / 2147483648 = 0 ∨ b / 2147483648 = 1) with q2 | q2 <;> rw [q, q2] <;> simp
  have ac : ∀ A B C D : Nat, (A ^^^ B) ^^^ (C ^^^ D) = (A ^^^ C) ^^^ (B ^^^ D) := by
    intro A B C D
    rw [Nat.xor_assoc, Nat.xor_assoc, ← Nat.xor_assoc B C D, Nat.xor_comm B C, Nat.xor_assoc C B D]
  show ((a ^^^ b) * 2 % 4294967296) ^^^ ((a ^^^ b) / 2147483648 * 79764919) = (a * 2 % 4294967296 ^^^ a / 2147483648 * 79764919) ^^^ (b * 2 % 4294967296 ^^^ b / 2147483648 * 79764919)
  rw [e2, e3, xor_mul2, e1, e4, e2 a, e2 b, ac]
omit H in
theorem crcB_xor : ∀ (n : Nat) {a b : Nat}, a < 4294967296 → b < 4294967296 → crcB n (a ^^^ b) = crcB n a ^^^ crcB n b
  | 0, _, _, _, _ => rfl
  | n + 1, a, b, ha, hb => by simp only [crcB]; rw [crcRow_xor ha hb]; exact crcB_xor n (crcRow_lt ha) (crcRow_lt hb)
omit H in
theorem crcB_low : ∀ (n : Nat) {x : Nat}, x * 2 ^ n < 4294967296 → crcB n x = x * 2 ^ n
  | 0, x, _ => by simp [crcB]
  | n + 1, x, h => by
    have h2 : x * 2 * 2 ^ n = x * 2 ^ (n + 1) := by rw [Nat.pow_succ, Nat.mul_assoc, Nat.mul_comm 2]
    have hp : 0 < 2 ^ n := Nat.two_pow_pos n
    have hx : x * 2 < 4294967296 := by
      have := Nat.le_mul_of_pos_right (x * 2) hp; omega
    have e : crcRow x = x * 2 := by
      simp only [crcRow]
      have h1 : x / 2147483648 = 0 := by omega
      rw [h1, Nat.zero_mul, Nat.xor_zero, Nat.mod_eq_of_lt hx]
    simp only [crcB, e]; rw [crcB_low n (by rw [h2]; exact h), h2]
end
theorem xor_mul24 (a b : Nat) : (a ^^^ b) * 16777216 = (a * 16777216) ^^^ (b * 16777216) := by
  have := Nat.shiftLeft_xor_distrib (a := a) (b := b) (i := 24)
  simpa [Nat.shiftLeft_eq] using this
theorem split24 (x : Nat) : x = (x / 16777216 * 16777216) ^^^ (x % 16777216) := by
  apply Nat.eq_of_testBit_eq
  intro i
  rw [Nat.testBit_xor]
  have h1 : (x / 16777216 * 16777216).testBit i = (decide (24 ≤ i) && x.testBit i) := by
    have e : x / 16777216 * 16777216 = (x >>> 24) <<< 24 := by rw [Nat.shiftLeft_eq, Nat.shiftRight_eq_div_pow]
    rw [e, Nat.testBit_shiftLeft, Nat.testBit_shiftRight]
    by_cases q : 24 ≤ i
    · simp [q]
    · simp [q]
  have h2 : (x % 16777216).testBit i = (decide (i < 24) && x.testBit i) := Nat.testBit_mod_two_pow x 24 i
  rw [h1, h2]
  by_cases q : 24 ≤ i
  · have q2 : ¬ i < 24 := by omega
    simp [q, q2]
  · have q2 : i < 24 := by omega
    simp [q, q2]
theorem crcStep_eq {x b : Nat} (hx : x < 4294967296) (hb : b < 256) : crcB 8 (x ^^^ b * 16777216) = crcStep x b := by
  have hA : x / 16777216 < 256 := by omega
  have hy : x / 16777216 ^^^ b < 2 ^ 8 := Nat.xor_lt_two_pow hA hb
  have e1 : x ^^^ b * 16777216 = ((x / 16777216 ^^^ b) * 16777216) ^^^ (x % 16777216) := by
    rw [xor_mul24]
    conv => lhs; rw [split24 x]
    rw [Nat.xor_assoc, Nat.xor_comm (x % 16777216), ← Nat.xor_assoc]
  rw [e1, crcB_xor 8 (by omega) (by omega), crcB_low 8 (x := x % 16777216) (by omega)]
  have e2 : (x / 16777216 ^^^ b) * 16777216 % 4294967296 = (x / 16777216 ^^^ b) * 16777216 := by omega
  simp only [crcStep, crcT, e2]
  rw [Nat.xor_comm]
  congr 1
  omega
section
variable {ov : OvT} (H : OvH ov)
include H
theorem rStep_cr {h : Heap} {c x b : Nat} (hx : x < 4294967296) (hb : b < 256) :
    CR Tryz.prog ov 119 [uv x, bv b] ⟨h, c⟩ (fun w st => w = uv (crcStep x b) ∧ Same h c st) := by
  have hxb : x ^^^ b * 16777216 < 2 ^ 32 := Nat.xor_lt_two_pow hx (by omega)
  rw [← crcStep_eq hx hb]
  refine e_2 Tryz.func119 rfl (H _ (by decide)) Tryz.ntmps119 (by decide) ?_
  intro env hl
  refine sg 1 rfl (qA hl rfl (nK (sg 7 rfl (qM hl rfl (qM hl rfl (qH hl rfl Tryz.underlying5 Tryz.underlying38 (by first | exact wI (by omega) | exact wU (by omega) | exact wB (by omega) | exact wL (by omega) | rfl) ?_))))))
  refine q_mul hl rfl rfl (m := ((b * 16777216 : Nat) : Int)) (by rw [wrapU32 (by omega) (by omega)]; omega) ?_
  refine qB hl rfl rfl (xorU _ _ hx (by omega)) ?_
  refine qC hl rfl (CR.mono (rCrcBits_cr H (x := x ^^^ b * 16777216) (by omega)) ?_)
  rintro v ⟨hh1, cc1⟩ ⟨rfl, rfl, hk⟩
  try dsimp only at hk
  refine qA hl rfl (nK (rR (f_1 hl rfl (.inl rfl) rfl ?_)))
  exact ⟨rfl, rfl, by dsimp only at *; omega⟩
omit H in
theorem ones32 : ∀ i : _root_.Fin 32, (4294967295 : BitVec 32)[i.val]'i.isLt = true := by decide
omit H in
theorem xor_ones (x : Nat) (h : x < 4294967296) : 4294967295 ^^^ x = 4294967295 - x := by
  have e : (4294967295 : BitVec 32) ^^^ BitVec.ofNat 32 x = 4294967295 - BitVec.ofNat 32 x := by
    have h1 : (4294967295 : BitVec 32) ^^^ BitVec.ofNat 32 x = ~~~ (BitVec.ofNat 32 x) := by
      apply BitVec.eq_of_getElem_eq; intro i hi
      simp only [BitVec.getElem_xor, BitVec.getElem_not]
      have : (4294967295 : BitVec 32)[i] = true := by
        exact ones32 ⟨i, hi⟩
      rw [this]; simp
    rw [h1]
    apply BitVec.eq_of_toNat_eq
    rw [BitVec.toNat_not, BitVec.toNat_sub]
    simp [Nat.mod_eq_of_lt h]; omega
  have e2 := congrArg BitVec.toNat e
  rw [BitVec.toNat_xor, BitVec.toNat_sub] at e2
  simp only [BitVec.toNat_ofNat, Nat.mod_eq_of_lt h] at e2
  have e3 : (4294967295 : BitVec 32).toNat = 4294967295 := rfl
  rw [e3] at e2
  omega
theorem rOf_cr {h : Heap} {c : Nat} {s : List Nat} (h256 : ∀ x ∈ s, x < 256) (hn : s.length ≤ 2 ^ 40) :
    CR Tryz.prog ov 76 [.string (txt s)] ⟨h, c⟩ (fun w st => w = uv (crcOf s) ∧ Same h c st) := by
  have hsz := txt_size s
  have hlt : ∀ (l : List Nat) (x : Nat), x < 4294967296 → l.foldl crcStep x < 4294967296 := by
    intro l
    induction l with
    | nil => intro x hx; exact hx
    | cons y l ih => intro x hx; exact ih _ (crcStep_lt x y)
  refine e_1 Tryz.func76 rfl (H _ (by decide)) Tryz.ntmps76 (by decide) ?_
  intro env hl
  refine sg 1 rfl (qA hl rfl (nK (sg 1 rfl (qA hl rfl (nK (rS (sg 1 rfl (qA hl rfl (nK (rB ?_))))))))))
  refine rL (fun m env' s' => ∃ j, m = s.length - j ∧ j ≤ s.length ∧ Hd 18 [(0, .string (txt s)), (4, nv j), (3, uv ((s.take j).foldl crcStep 4294967295))] env' ∧ s'.heap = h ∧ c ≤ s'.ctr) s.length ?_ ?_
  · exact ⟨0, rfl, Nat.zero_le _, Ho hl ⟨rfl, rfl, rfl, trivial⟩, rfl, by dsimp only; omega⟩
  rintro m _ ⟨h2, c2⟩ ⟨j, rfl, hj, ⟨env, hl, rfl⟩, he, hc2⟩
  dsimp only at he hc2
  subst he
  refine rS (sg 4 rfl (qM hl rfl (qM hl rfl (qK hl rfl Tryz.underlying9 ?_))))
  rw [hsz]
  refine qB hl rfl rfl rfl (nK ?_)
  refine rC hl rfl (fun hjn => ?_) (fun hjn => ?_)
  · try simp only [dz, dy] at hjn
    obtain ⟨x, hx⟩ : ∃ x, s[j]? = some x := ⟨_, List.getElem?_eq_getElem (by omega)⟩
    have hx2 := h256 x (List.mem_of_getElem? hx)
    have hxn : (UInt8.ofNat x).toNat = x := by simp [UInt8.toNat_ofNat, Nat.mod_eq_of_lt hx2]
    have htk : (s.take (j + 1)).foldl crcStep 4294967295 = crcStep ((s.take j).foldl crcStep 4294967295) x := by rw [List.take_add_one, hx, List.foldl_append]; rfl
    refine rK (kN (rS (rB (rg 6 rfl (qM hl rfl (qM hl rfl (qM hl rfl (qJ hl rfl rfl Tryz.underlying9 (by omega) (txt_get hx) ?_))))))))
    simp only [hxn]
    refine qC hl rfl (CR.mono (rStep_cr H (hlt _ _ (by omega)) hx2) ?_)
    rintro v ⟨hh1, cc1⟩ ⟨rfl, rfl, hk⟩
    try dsimp only at hk
    refine qA hl rfl (rN (kO (kN (rg 3 rfl (qM hl rfl (qP hl rfl rfl (by first | exact wI (by omega) | exact wU (by omega) | exact wB (by omega) | exact wL (by omega) | rfl) ?_))))))
    refine qA hl rfl (nK ?_)
    exact ⟨s.length - (j + 1), by omega, j + 1, rfl, by omega, Ho hl ⟨rfl, rfl, by rw [htk]; rfl, trivial⟩, rfl, by dsimp only at *; omega⟩
  · try simp only [dz, dy] at hjn
    have ej : j = s.length := by omega
    subst ej
    rw [List.take_length]
    have hl0 := hlt s 4294967295 (by omega)
    refine r_exit (kE (kE (kB (kN (sg 3 rfl (qM hl rfl (q_sub hl rfl rfl (m := ((4294967295 - s.foldl crcStep 4294967295 : Nat) : Int)) (by rw [wrapU32 (by omega) (by omega)]; omega) ?_)))))))
    refine qA hl rfl (nK (rR (f_1 hl rfl (.inl rfl) rfl ?_)))
    exact ⟨by simp only [crcOf]; rw [xor_ones _ hl0], rfl, by dsimp only; omega⟩
theorem rCombine_cr {h : Heap} {c x y : Nat} (hx : x < 4294967296) (hy : y < 4294967296) :
    CR Tryz.prog ov 87 [uv x, uv y] ⟨h, c⟩ (fun w st => w = uv (crcCom x y) ∧ Same h c st) := by
  have h2 : x * 2 % 4294967296 ^^^ x / 2147483648 = x * 2 % 4294967296 + x / 2147483648 := by
    rcases (by omega : x / 2147483648 = 0 ∨ x / 2147483648 = 1) with q | q
    · rw [q]; simp
    · rw [q]
      have e : x * 2 % 4294967296 = 2 * (x % 2147483648) := by omega
      rw [e, Nat.mul_comm]
      have := Nat.shiftLeft_add_eq_or_of_lt (i := 1) (b := 1) (by omega) (x % 2147483648)
      rw [Nat.shiftLeft_eq] at this
      have e5 : (x % 2147483648 * 2) ^^^ 1 = (x % 2147483648 * 2) ||| 1 := by
        apply Nat.eq_of_testBit_eq; intro i
        rw [Nat.testBit_xor, Nat.testBit_or]
        cases i with
        | zero => simp
        | succ i => simp [Nat.testBit_succ]
      rw [e5]; exact this.symm
  have h3 : crcCom x y = (x * 2 % 4294967296 + x / 2147483648) ^^^ y := by simp only [crcCom, h2]
  rw [h3]
  refine e_2 Tryz.func87 rfl (H _ (by decide)) Tryz.ntmps87 (by decide) ?_
  intro env hl
  refine sg 1 rfl (qA hl rfl (nK (sg 3 rfl (qM hl rfl (q_mul hl rfl rfl (m := ((x * 2 % 4294967296 : Nat) : Int)) (by have := wrapU32m (x * 2); simpa using this) ?_)))))
  refine qA hl rfl (nK (rS (sg 2 rfl (qM hl rfl (qB hl rfl rfl rfl (nK ?_))))))
  refine rC hl rfl (fun hge => ?_) (fun hge => ?_)
  · try simp only [dz, dy] at hge
    refine rg 3 rfl (qM hl rfl (qP hl rfl rfl (m := ((x * 2 % 4294967296 + x / 2147483648 : Nat) : Int)) (by rw [wrapU32 (by omega) (by omega)]; omega) ?_))
    refine qA hl rfl (nK (sg 4 rfl (qM hl rfl (qM hl rfl (qB hl rfl rfl (xorU _ _ (by omega) hy) ?_)))))
    refine qA hl rfl (nK (rR (f_1 hl rfl (.inl rfl) rfl ?_)))
    exact ⟨rfl, rfl, by dsimp only; omega⟩
  · try simp only [dz, dy] at hge
    refine rK (kN (sg 4 rfl (qM hl rfl (qM hl rfl (qB hl rfl rfl (xorU _ _ (by omega) hy) ?_)))))
    refine qA hl rfl (nK (rR (f_1 hl rfl (.inl rfl) rfl ?_)))
    have e0 : x / 2147483648 = 0 := by omega
    rw [e0, Nat.add_zero]
    exact ⟨rfl, rfl, by dsimp only; omega⟩
end
def fourL : List Nat → Bool
  | a :: b :: c :: d :: _ => a == b && b == c && c == d
  | _ => false
def leadL (p : Nat) : List Nat → Nat
  | [] => 0
  | x :: r => if x = p then leadL p r + 1 else 0
theorem unpk_cons {k p x : Nat} {r : List Nat} (hk : k ≠ 4) : unpk k p (x :: r) = if 0 < k ∧ x = p then (unpk (k + 1) x r).map (x :: ·) else (unpk 1 x r).map (x :: ·) := by
  simp only [unpk]; rw [if_neg hk]
theorem unpk_run {s : List Nat} : ∀ {k p : Nat}, k + leadL p s < 4 → unpk k p s = unpk 0 0 s := by
  induction s with
  | nil => intro k p h; simp only [unpk]; rw [if_neg (by omega)]; rfl
  | cons x r ih =>
    intro k p h
    simp only [leadL] at h
    have hk4 : k ≠ 4 := by split at h <;> omega
    rw [unpk_cons hk4, unpk_cons (show 0 ≠ 4 by omega), if_neg (show ¬ (0 < 0 ∧ x = 0) by omega)]
    by_cases q : x = p
    · subst q
      rw [if_pos rfl] at h
      by_cases hk : 0 < k
      · rw [if_pos ⟨hk, rfl⟩, ih (k := k + 1) (p := x) (by omega), ih (k := 1) (p := x) (by omega)]
      · rw [if_neg (by omega)]
    · rw [if_neg (by omega)]
theorem unpk_prev (p : Nat) (s : List Nat) : unpk 0 p s = unpk 0 0 s := by
  cases s with
  | nil => rfl
  | cons x r => rw [unpk_cons (show 0 ≠ 4 by omega), unpk_cons (show 0 ≠ 4 by omega), if_neg (by omega), if_neg (by omega)]
theorem unpk_not {x : Nat} {r : List Nat} (h : fourL (x :: r) = false) : unpk 0 0 (x :: r) = (unpk 0 0 r).map ([x] ++ ·) := by
  have hl : 1 + leadL x r < 4 := by
    rcases r with _ | ⟨b, _ | ⟨c, _ | ⟨d, t⟩⟩⟩
    · simp [leadL]
    · simp only [leadL]; split <;> omega
    · simp only [leadL]; split <;> (try split) <;> omega
    · simp only [fourL, Bool.and_eq_false_iff, beq_eq_false_iff_ne, ne_eq] at h
      simp only [leadL]
      by_cases q1 : b = x
      · rw [if_pos q1]
        by_cases q2 : c = x
        · rw [if_pos q2]
          by_cases q3 : d = x
          · omega
          · rw [if_neg q3]; omega
        · rw [if_neg q2]; omega
      · rw [if_neg q1]; omega
  rw [← unpk_run hl]
  rw [unpk_cons (show 0 ≠ 4 by omega), if_neg (by omega)]; rfl
theorem unpk_four {x : Nat} {t : List Nat} : unpk 0 0 (x :: x :: x :: x :: t) = (unpk 4 x t).map (List.replicate 4 x ++ ·) := by
  simp [unpk]
  cases unpk 4 x t <;> simp [Except.map]
section
variable {ov : OvT} (H : OvH ov)
include H
theorem rLinks_cr {h : Heap} {c : Nat} {s : List Nat} (h256 : ∀ x ∈ s, x < 256) (hn : s.length ≤ 1000000) :
    CR Tryz.prog ov 118 [.string (txt s)] ⟨h, c⟩ (fun w st => ∃ a cp, w = .slice a s.length cp ∧ SlR 3 1 ((ordU s 256).map nv) a s.length cp st.heap.get ∧ (∀ z ∈ own a, c ≤ z ∧ z < st.ctr) ∧ Keep [] h c st) := by
  have hsz := txt_size s
  refine e_1 Tryz.func118 rfl (H _ (by decide)) Tryz.ntmps118 (by decide) ?_
  intro env hl
  refine sg 1 rfl (qA hl rfl (nK (sg 1 rfl (qA hl rfl (nK (rS (sg 1 rfl (qM hl rfl (nK (rB ?_))))))))))
  refine rL (fun m env' s' => ∃ b a cp, m = 256 - b ∧ b ≤ 256 ∧ Hd 27 [(0, .string (txt s)), (3, .slice a (fromC s b) cp), (6, nv b)] env' ∧ SlR 3 1 ((ordU s b).map nv) a (fromC s b) cp s'.heap.get ∧ (∀ z ∈ own a, c ≤ z ∧ z < s'.ctr) ∧ Keep [] h c s') 256 ?_ ?_
  · exact ⟨0, none, 0, rfl, by omega, Ho hl ⟨rfl, rfl, rfl, trivial⟩, SlR.nil, by simp [own], Keep.refl (by omega)⟩
  rintro m _ ⟨h2, c2⟩ ⟨b, a, cp, rfl, hb, ⟨env, hl, rfl⟩, hS, hO, hK⟩
  dsimp only at hS hO
  have hcc := hK.1
  dsimp only at hcc
  refine sg 1 rfl (qB hl rfl rfl rfl (nK (rS ?_)))
  refine rC hl rfl (fun hb2 => ?_) (fun hb2 => ?_)
  · try simp only [dz, dy] at hb2
    refine rK (kN (rS (rB (sg 2 rfl (qM hl rfl (qA hl rfl (nK (sg 3 rfl (qM hl rfl (qK hl rfl Tryz.underlying9 ?_))))))))))
    rw [hsz]
    refine qM hl rfl (nK (rB ?_))
    refine rL (fun m env' s' => ∃ j a cp, m = s.length - j ∧ j ≤ s.length ∧ Hd 27 [(0, .string (txt s)), (3, .slice a (fromC s b + cntB s j b) cp), (6, nv b), (4, nv b), (10, nv s.length), (11, nv j)] env' ∧ SlR 3 1 ((ordU s b ++ idx ((s.map (· == b)).take j) 0).map nv) a (fromC s b + cntB s j b) cp s'.heap.get ∧ (∀ z ∈ own a, c ≤ z ∧ z < s'.ctr) ∧ Keep [] h c s') s.length ?_ ?_
    · refine ⟨0, a, cp, rfl, Nat.zero_le _, Ho hl ⟨rfl, rfl, rfl, rfl, rfl, rfl, trivial⟩, ?_, fun z hz => by have := hO z hz; dsimp only; omega, hK.up (by omega)⟩
      simpa [cntB, idx] using hS
    rintro m _ ⟨h3, c3⟩ ⟨j, a, cp, rfl, hj, ⟨env, hl, rfl⟩, hS, hO, hK⟩
    dsimp only at hS hO
    have hcc3 := hK.1
    dsimp only at hcc3
    have hcle := cntB_le s j b
    have hfle := fromC_le s (b + 1)
    have hfs : fromC s (b + 1) = fromC s b + (those s b).length := rfl
    refine sg 1 rfl (qB hl rfl rfl rfl (nK (rS ?_)))
    refine rC hl rfl (fun hjn => ?_) (fun hjn => ?_)
    · try simp only [dz, dy] at hjn
      obtain ⟨x, hx⟩ : ∃ x, s[j]? = some x := ⟨_, List.getElem?_eq_getElem (by omega)⟩
      have hx2 := h256 x (List.mem_of_getElem? hx)
      have hxn : (UInt8.ofNat x).toNat = x := by simp [UInt8.toNat_ofNat, Nat.mod_eq_of_lt hx2]
      have hcs := cntB_succ b hx
      have hts := those_take (n := b) hx
      refine rK (kN (rS (rB (sg 2 rfl (qM hl rfl (qA hl rfl (nK (sg 6 rfl (qM hl rfl (qM hl rfl (qJ hl rfl rfl Tryz.underlying9 (by omega) (txt_get hx) ?_)))))))))))
      simp only [hxn]
      refine qH hl rfl Tryz.underlying5 Tryz.underlying3 (by first | exact wI (by omega) | exact wU (by omega) | exact wB (by omega) | exact wL (by omega) | rfl) ?_
      refine qM hl rfl (qB hl rfl rfl rfl (nK ?_))
      refine rC hl rfl (fun hxb => ?_) (fun hxb => ?_)
      · try simp only [dz, dy] at hxb
        rw [if_pos (by omega)] at hcs hts
        refine rg 5 rfl (qM hl rfl (qM hl rfl (q1_ hl rfl a171 rfl (qX hl rfl rfl a171 a171 (hS.move (fun z hz => by have := hO z hz; rw [T.get_set, if_neg (by omega)])) ((T.get_set _ _ _ _).trans (if_pos rfl)) rfl (by omega) (by omega) ?_))))
        intro a2 cp2 h4 hS2 hO2 hF2
        refine qA hl rfl (rN (kO (kN (rg 2 rfl (qP hl rfl rfl (by first | exact wI (by omega) | exact wU (by omega) | exact wB (by omega) | exact wL (by omega) | rfl) ?_)))))
        refine qM hl rfl (nK ?_)
        refine ⟨s.length - (j + 1), by omega, j + 1, a2, cp2, rfl, by omega, Ho hl ⟨rfl, by rw [hcs]; rfl, rfl, rfl, rfl, rfl, trivial⟩, ?_, fun z hz => by have := hO2 z hz; dsimp only; omega, hK.app2 hF2 (fun z hz => .inl (hO z hz).1) (by omega) (by omega) (by omega)⟩
        rw [hcs, hts, ← List.append_assoc, List.map_append (l₁ := ordU s b ++ idx (List.take j (List.map (· == b) s)) 0)]; exact hS2
      · try simp only [dz, dy] at hxb
        rw [if_neg (by omega)] at hcs hts
        refine rK (kO (kN (rg 2 rfl (qP hl rfl rfl (by first | exact wI (by omega) | exact wU (by omega) | exact wB (by omega) | exact wL (by omega) | rfl) ?_))))
        refine qM hl rfl (nK ?_)
        exact ⟨s.length - (j + 1), by omega, j + 1, a, cp, rfl, by omega, Ho hl ⟨rfl, by rw [hcs]; rfl, rfl, rfl, rfl, rfl, trivial⟩, by rw [hcs, hts]; exact hS, fun z hz => by have := hO z hz; dsimp only; omega, hK.up (by omega)⟩
    · try simp only [dz, dy] at hjn
      have ej : j = s.length := by omega
      subst ej
      rw [cntB_all (Nat.le_refl _)] at hS
      rw [cntB_all (Nat.le_refl _)]
      rw [List.take_of_length_le (by simp)] at hS
      refine r_exit (kE (kE (kB (kO (kN (rg 2 rfl (qP hl rfl rfl (by first | exact wI (by omega) | exact wU (by omega) | exact wB (by omega) | exact wL (by omega) | rfl) ?_)))))))
      refine qM hl rfl (nK ?_)
      refine ⟨256 - (b + 1), by omega, b + 1, a, cp, rfl, by omega, Ho hl ⟨rfl, by rw [hfs]; rfl, rfl, trivial⟩, by rw [ordU_succ, hfs]; exact hS, fun z hz => by have := hO z hz; dsimp only; omega, hK.up (by omega)⟩
  · try simp only [dz, dy] at hb2
    have eb : b = 256 := by omega
    subst eb
    rw [fromC_all h256] at hS
    rw [fromC_all h256]
    refine r_exit (kE (kE (kB (kN (sg 2 rfl (qM hl rfl (qA hl rfl (nK (rR (f_1 hl rfl (.inl rfl) rfl ?_))))))))))
    exact ⟨a, cp, rfl, hS, fun z hz => by have := hO z hz; dsimp only; omega, hK.up (by omega)⟩
end
theorem take1 {s : List Nat} {i x : Nat} (h : s[i]? = some x) : (s.drop i).take (i + 1 - i) = [x] := by
  have hi : i < s.length := by rcases Nat.lt_or_ge i s.length with q | q; exact q; rw [List.getElem?_eq_none q] at h; cases h
  rw [Nat.add_sub_cancel_left, List.drop_eq_getElem_cons hi]
  rw [List.getElem?_eq_getElem hi] at h
  simp [Option.some.inj h]
section
variable {ov : OvT} (H : OvH ov)
include H
theorem rUnbw_cr {h : Heap} {c o : Nat} {s : List Nat} (h256 : ∀ x ∈ s, x < 256) (hn : s.length ≤ 1000000) (ho : o < s.length) :
    CR Tryz.prog ov 75 [.string (txt s), nv o] ⟨h, c⟩ (fun w st => w = .string (txt (unbw s o)) ∧ Keep [] h c st) := by
  have hsz := txt_size s
  have hol : (ordU s 256).length = s.length := by rw [ordU_len, fromC_all h256]
  refine e_2 Tryz.func75 rfl (H _ (by decide)) Tryz.ntmps75 (by decide) ?_
  intro env hl
  refine sg 1 rfl (qA hl rfl (nK (sg 3 rfl (qM hl rfl (qC hl rfl (CR.mono (rLinks_cr H h256 hn) ?_))))))
  rintro v ⟨hh1, cc1⟩ ⟨a, cp, rfl, hS, hO, hK⟩
  have hcc1 := hK.1
  dsimp only at hcc1 hS hO
  refine qA hl rfl (nK (sg 1 rfl (qA hl rfl (nK (sg 2 rfl (qM hl rfl (qA hl rfl (nK (rS (sg 3 rfl (qM hl rfl (qK hl rfl Tryz.underlying9 ?_))))))))))))
  rw [hsz]
  refine qM hl rfl (nK (rB ?_))
  refine rL (fun m env' s' => ∃ j, m = s.length - j ∧ j ≤ s.length ∧ Hd 28 [(0, .string (txt s)), (5, .slice a s.length cp), (7, nv (atI (ordU s 256) o j)), (6, .string (txt (outI (ordU s 256) s o j))), (12, nv s.length), (13, nv j)] env' ∧ s'.heap = hh1 ∧ cc1 ≤ s'.ctr) s.length ?_ ?_
  · exact ⟨0, rfl, Nat.zero_le _, Ho hl ⟨rfl, rfl, rfl, rfl, rfl, rfl, trivial⟩, rfl, by dsimp only; omega⟩
  rintro m _ ⟨h2, c2⟩ ⟨j, rfl, hj, ⟨env, hl, rfl⟩, he, hc2⟩
  dsimp only at he hc2
  subst he
  refine sg 1 rfl (qB hl rfl rfl rfl (nK (rS ?_)))
  refine rC hl rfl (fun hjn => ?_) (fun hjn => ?_)
  · try simp only [dz, dy] at hjn
    obtain ⟨mb, rfl, rfl, hmb⟩ := hS.pos (by omega)
    have hat := atI_lt h256 ho j
    have hat1 := atI_lt h256 ho (j + 1)
    obtain ⟨y, hy⟩ : ∃ y, s[atI (ordU s 256) o (j + 1)]? = some y := ⟨_, List.getElem?_eq_getElem hat1⟩
    have hoj : (outI (ordU s 256) s o j).length = j := by simp [outI]
    have hos : outI (ordU s 256) s o (j + 1) = outI (ordU s 256) s o j ++ [y] := by rw [outI_succ, List.getD_eq_getElem?_getD, hy]; rfl
    refine rK (kN (rS (rB (sg 5 rfl (qM hl rfl (qM hl rfl (qI hl rfl rfl e171 ⟨by omega, by omega⟩ ?_)))))))
    refine qL hl rfl (by assumption) (by exact (p3.1 _ _).trans (by rw [show 0 + ((atI (ordU s 256) o j : Nat) : Int).toNat * 1 = atI (ordU s 256) o j by omega]; exact nv_get (l := ordU s 256) (i := atI (ordU s 256) o j) (by omega))) (v := nv (atI (ordU s 256) o (j + 1))) ?_
    refine qA hl rfl (nK (rg 8 rfl (qM hl rfl (qM hl rfl (qM hl rfl (qM hl rfl (qP hl rfl rfl (by first | exact wI (by omega) | exact wU (by omega) | exact wB (by omega) | exact wL (by omega) | rfl) ?_)))))))
    refine qT (s := s) (atI (ordU s 256) o (j + 1)) (atI (ordU s 256) o (j + 1) + 1) hl rfl Tryz.underlying9 rfl rfl ⟨by omega, by omega⟩ ?_
    simp only [take1 hy]
    refine qB hl rfl rfl (addS _ _ (by rw [hoj]; simp; omega)) ?_
    refine qA hl rfl (rN (kO (kN (rg 2 rfl (qP hl rfl rfl (by first | exact wI (by omega) | exact wU (by omega) | exact wB (by omega) | exact wL (by omega) | rfl) ?_)))))
    refine qM hl rfl (nK ?_)
    exact ⟨s.length - (j + 1), by omega, j + 1, rfl, by omega, Ho hl ⟨rfl, rfl, rfl, by rw [hos]; rfl, rfl, rfl, trivial⟩, rfl, by dsimp only; omega⟩
  · try simp only [dz, dy] at hjn
    refine r_exit (kE (kE (kB (kN (sg 2 rfl (qM hl rfl (qA hl rfl (nK (rR (f_1 hl rfl (.inl rfl) rfl ?_))))))))))
    have ej : j = s.length := by omega
    subst ej
    exact ⟨rfl, (hK.base (by omega)).up (by omega)⟩
theorem rFour_cr {h : Heap} {c : Nat} {s : List Nat} (h256 : ∀ x ∈ s, x < 256) (hn : s.length ≤ 1000000000) :
    CR Tryz.prog ov 117 [.string (txt s)] ⟨h, c⟩ (fun w st => w = .bool (fourL s) ∧ Same h c st) := by
  have hsz := txt_size s
  by_cases h4 : 4 ≤ s.length
  · obtain ⟨x0, x1, x2, x3, t, rfl⟩ : ∃ x0 x1 x2 x3 t, s = x0 :: x1 :: x2 :: x3 :: t := by
      rcases s with _ | ⟨a, _ | ⟨b, _ | ⟨d, _ | ⟨e, t⟩⟩⟩⟩
      · simp at h4
      · simp at h4
      · simp at h4
      · simp at h4
      · exact ⟨a, b, d, e, t, rfl⟩
    have y0 := h256 x0 (by simp)
    have y1 := h256 x1 (by simp)
    have y2 := h256 x2 (by simp)
    have y3 := h256 x3 (by simp)
    have z0 : (UInt8.ofNat x0).toNat = x0 := by simp [UInt8.toNat_ofNat, Nat.mod_eq_of_lt y0]
    have z1 : (UInt8.ofNat x1).toNat = x1 := by simp [UInt8.toNat_ofNat, Nat.mod_eq_of_lt y1]
    have z2 : (UInt8.ofNat x2).toNat = x2 := by simp [UInt8.toNat_ofNat, Nat.mod_eq_of_lt y2]
    have z3 : (UInt8.ofNat x3).toNat = x3 := by simp [UInt8.toNat_ofNat, Nat.mod_eq_of_lt y3]
    have g0 := txt_get (s := x0 :: x1 :: x2 :: x3 :: t) (i := 0) rfl
    have g1 := txt_get (s := x0 :: x1 :: x2 :: x3 :: t) (i := 1) rfl
    have g2 := txt_get (s := x0 :: x1 :: x2 :: x3 :: t) (i := 2) rfl
    have g3 := txt_get (s := x0 :: x1 :: x2 :: x3 :: t) (i := 3) rfl
    have hge : decide (((txt (x0 :: x1 :: x2 :: x3 :: t)).size : Int) ≥ 4) = true := by rw [hsz]; simp at h4 ⊢; omega
    refine e_1 Tryz.func117 rfl (H _ (by decide)) Tryz.ntmps117 (by decide) ?_
    intro env hl
    refine sg 1 rfl (qA hl rfl (nK (rS (rD [] (by decide +kernel) (by decide +kernel) (n := 25) rfl ?_))))
    refine qM hl rfl (qK hl rfl Tryz.underlying9 (qB hl rfl rfl rfl (qM hl rfl (qG hl rfl rfl rfl hge (qM hl rfl (qG hl rfl rfl rfl hge (qJ hl rfl rfl Tryz.underlying9 (by omega) g0 ?_)))))))
    refine qG hl rfl rfl rfl hge (qM hl rfl (qG hl rfl rfl rfl hge (qJ hl rfl rfl Tryz.underlying9 (by omega) g1 ?_)))
    refine qG hl rfl rfl rfl hge (qB hl rfl rfl rfl (qQ hl rfl rfl rfl (if_pos hge) (qM hl rfl ?_)))
    refine q_case hl (rfl : lk _ _ 13 = _) (fun ha => ?_) (fun ha => ?_)
    · have ha_ := ha
      try simp only [dz] at ha_
      refine qG hl rfl rfl rfl ha (qM hl rfl (qG hl rfl rfl rfl ha (qJ hl rfl rfl Tryz.underlying9 (by omega) g1 ?_)))
      refine qG hl rfl rfl rfl ha (qM hl rfl (qG hl rfl rfl rfl ha (qJ hl rfl rfl Tryz.underlying9 (by omega) g2 ?_)))
      refine qG hl rfl rfl rfl ha (qB hl rfl rfl rfl (qQ hl rfl rfl rfl (if_pos ha) (qM hl rfl ?_)))
      refine q_case hl (rfl : lk _ _ 20 = _) (fun hb => ?_) (fun hb => ?_)
      · have hb_ := hb
        try simp only [dz] at hb_
        refine qG hl rfl rfl rfl hb (qM hl rfl (qG hl rfl rfl rfl hb (qJ hl rfl rfl Tryz.underlying9 (by omega) g2 ?_)))
        refine qG hl rfl rfl rfl hb (qM hl rfl (qG hl rfl rfl rfl hb (qJ hl rfl rfl Tryz.underlying9 (by omega) g3 ?_)))
        refine qG hl rfl rfl rfl hb (qB hl rfl rfl rfl (qQ hl rfl rfl rfl (if_pos hb) (qA hl rfl (ro_nild (kN (rR (f_1 hl rfl (.inl rfl) rfl ?_)))))))
        refine ⟨?_, rfl, by simp <;> omega⟩
        rw [z0, z1] at ha; rw [z1, z2] at hb; rw [z2, z3]
        have e0 : x0 = x1 := by simp at ha; omega
        have e1 : x1 = x2 := by simp at hb; omega
        subst e0 e1; congr 1; simp only [fourL, beq_self_eq_true, Bool.true_and, Bool.and_true]; rw [Bool.eq_iff_iff]; simp
        omega
      · have hb_ := hb
        try simp only [dz] at hb_
        refine qS hl rfl rfl rfl rfl (by rw [hb]; decide) ?_
        refine qS hl rfl rfl rfl rfl (by rw [hb]; decide) ?_
        refine qS hl rfl rfl rfl rfl (by rw [hb]; decide) ?_
        refine qS hl rfl rfl rfl rfl (by rw [hb]; decide) ?_
        refine qS hl rfl rfl rfl rfl (by rw [hb]; decide) ?_
        refine qQ hl rfl rfl rfl (if_neg (by rw [hb]; decide)) ?_
        refine qA hl rfl (ro_nild (kN (rR (f_1 hl rfl (.inl rfl) rfl ?_))))
        refine ⟨?_, rfl, by simp <;> omega⟩
        rw [z1, z2] at hb
        have e1 : (x1 == x2) = false := by simp at hb ⊢; omega
        simp [fourL, e1]
    · have ha_ := ha
      try simp only [dz] at ha_
      refine qS hl rfl rfl rfl rfl (by rw [ha]; decide) ?_
      refine qS hl rfl rfl rfl rfl (by rw [ha]; decide) ?_
      refine qS hl rfl rfl rfl rfl (by rw [ha]; decide) ?_
      refine qS hl rfl rfl rfl rfl (by rw [ha]; decide) ?_
      refine qS hl rfl rfl rfl rfl (by rw [ha]; decide) ?_
      refine qQ hl rfl rfl rfl (if_neg (by rw [ha]; decide)) ?_
      refine qM hl rfl (qS hl rfl rfl rfl rfl (by decide) ?_)
      refine qS hl rfl rfl rfl rfl (by decide) ?_
      refine qS hl rfl rfl rfl rfl (by decide) ?_
      refine qS hl rfl rfl rfl rfl (by decide) ?_
      refine qS hl rfl rfl rfl rfl (by decide) ?_
      refine qQ hl rfl rfl rfl (rfl) (qA hl rfl (ro_nild (kN (rR (f_1 hl rfl (.inl rfl) rfl ?_)))))
      refine ⟨?_, rfl, by simp <;> omega⟩
      rw [z0, z1] at ha
      have e1 : (x0 == x1) = false := by simp at ha ⊢; omega
      simp [fourL, e1]
  · have hge : decide (((txt s).size : Int) ≥ 4) = false := by rw [hsz]; simp; omega
    have hf : fourL s = false := by
      rcases s with _ | ⟨a, _ | ⟨b, _ | ⟨d, _ | ⟨e, t⟩⟩⟩⟩ <;> first | rfl | (simp at h4 <;> omega)
    refine e_1 Tryz.func117 rfl (H _ (by decide)) Tryz.ntmps117 (by decide) ?_
    intro env hl
    refine sg 1 rfl (qA hl rfl (nK (rS (rD [] (by decide +kernel) (by decide +kernel) (n := 25) rfl ?_))))
    refine qM hl rfl (qK hl rfl Tryz.underlying9 (qB hl rfl rfl rfl (qM hl rfl (qS hl rfl rfl rfl rfl (by rw [hge]; decide) ?_))))
    refine qS hl rfl rfl rfl rfl (by rw [hge]; decide) ?_
    refine qS hl rfl rfl rfl rfl (by rw [hge]; decide) ?_
    refine qS hl rfl rfl rfl rfl (by rw [hge]; decide) ?_
    refine qS hl rfl rfl rfl rfl (by rw [hge]; decide) ?_
    refine qQ hl rfl rfl rfl (if_neg (by rw [hge]; decide)) ?_
    refine qM hl rfl (qS hl rfl rfl rfl rfl (by decide) ?_)
    refine qS hl rfl rfl rfl rfl (by decide) ?_
    refine qS hl rfl rfl rfl rfl (by decide) ?_
    refine qS hl rfl rfl rfl rfl (by decide) ?_
    refine qS hl rfl rfl rfl rfl (by decide) ?_
    refine qQ hl rfl rfl rfl (rfl) (qM hl rfl (qS hl rfl rfl rfl rfl (by decide) ?_))
    refine qS hl rfl rfl rfl rfl (by decide) ?_
    refine qS hl rfl rfl rfl rfl (by decide) ?_
    refine qS hl rfl rfl rfl rfl (by decide) ?_
    refine qS hl rfl rfl rfl rfl (by decide) ?_
    refine qQ hl rfl rfl rfl (rfl) (qA hl rfl (ro_nild (kN (rR (f_1 hl rfl (.inl rfl) rfl ?_)))))
    refine ⟨?_, rfl, by simp <;> omega⟩
    rw [hf]
    try rfl
theorem rDecode_cr {h : Heap} {c : Nat} {s : List Nat} (h256 : ∀ x ∈ s, x < 256) (hn : s.length ≤ 1000000) :
    CR Tryz.prog ov 74 [.string (txt s)] ⟨h, c⟩ (fun w st => (match unpk 0 0 s with
      | .ok out => w = .tuple #[.string (txt out), nv 0]
      | .error e => w = .tuple #[nostr, nv e]) ∧ Same h c st) := by
  refine e_1 Tryz.func74 rfl (H _ (by decide)) Tryz.ntmps74 (by decide) ?_
  intro env hl
  refine sg 2 rfl (qA hl rfl (qA hl rfl (nK (sg 1 rfl (qA hl rfl (nK (rS (rB ?_))))))))
  refine rL (fun m env' s' => ∃ r out, m = r.length ∧ Hd 37 [(0, .string (txt r)), (4, .string (txt out))] env' ∧ Out s out (unpk 0 0 r) ∧ (∀ x ∈ r, x < 256) ∧ r.length ≤ s.length ∧ out.length + 251 * r.length ≤ 251 * s.length ∧ s'.heap = h ∧ c ≤ s'.ctr) s.length ?_ ?_
  · exact ⟨s, [], rfl, Ho hl ⟨rfl, rfl, trivial⟩, by unfold Out; cases h : unpk 0 0 s <;> simp [h, Except.map], h256, Nat.le_refl _, by simp, rfl, by dsimp only; omega⟩
  rintro m _ ⟨h2, c2⟩ ⟨r, out, rfl, ⟨env, hl, rfl⟩, hO, hr256, hrl, hol, he, hc2⟩
  dsimp only at he hc2
  subst he
  have hsz := txt_size r
  refine rS (sg 3 rfl (qM hl rfl (qK hl rfl Tryz.underlying9 (qB hl rfl rfl rfl (nK ?_)))))
  refine rC hl rfl (fun hr0 => ?_) (fun hr0 => ?_)
  · try simp only [dz, dy] at hr0
    have hr00 : 0 < r.length := by omega
    obtain ⟨x, r', rfl⟩ : ∃ x r', r = x :: r' := by cases r with | nil => (simp at hr00) | cons x r' => exact ⟨x, r', rfl⟩
    refine rK (kN (rB (rS (sg 3 rfl (qM hl rfl (qC hl rfl (CR.mono (rFour_cr H hr256 (by omega)) ?_)))))))
    rintro v ⟨hh1, cc1⟩ ⟨rfl, rfl, hk⟩
    try dsimp only at hk
    refine q_un hl rfl rfl (nK ?_)
    refine rC hl rfl (fun hf => ?_) (fun hf => ?_)
    · try simp only [dz, dy] at hf
      have hf' : fourL (x :: r') = false := by simpa using hf
      refine sg 5 rfl (qM hl rfl (qM hl rfl (qT (s := x :: r') 0 1 hl rfl Tryz.underlying9 rfl rfl ⟨by omega, by simp⟩ ?_)))
      refine qB hl rfl rfl (addS _ _ (by simp at hol hrl ⊢; omega)) ?_
      refine qA hl rfl (nK (sg 3 rfl (qM hl rfl (qT (s := x :: r') 1 (r'.length + 1) hl rfl Tryz.underlying9 rfl rfl ⟨by omega, by simp⟩ ?_))))
      refine qA hl rfl (nK (r_exit (kE (kB (kN ?_)))))
      refine ⟨r'.length, by simp, r', out ++ [x], rfl, Ho hl ⟨?_, rfl, trivial⟩, hO.app (unpk_not hf'), fun y hy => hr256 y (by simp [hy]), by simp at hrl; omega, by simp at hol ⊢; omega, rfl, by dsimp only at *; omega⟩
      simp [lk, Nat.beq, Nat.blt, Nat.ble]
    · try simp only [dz, dy] at hf
      have hf' : fourL (x :: r') = true := by simpa using hf
      obtain ⟨t, rfl⟩ : ∃ t, r' = x :: x :: x :: t := by rcases r' with _ | ⟨a, _ | ⟨b, _ | ⟨d, t⟩⟩⟩ <;> simp [fourL] at hf'; obtain ⟨⟨q1, q2⟩, q3⟩ := hf'; exact ⟨t, by rw [← q3, ← q2, ← q1]⟩
      rw [unpk_four] at hO
      refine rK (kN (rS (sg 3 rfl (qM hl rfl (qK hl rfl Tryz.underlying9 ?_)))))
      rw [hsz]
      refine qB hl rfl rfl rfl (nK ?_)
      refine rC hl rfl (fun h4 => ?_) (fun h4 => ?_)
      · try simp only [dz, dy] at h4
        refine sg 2 rfl (qA hl rfl (qA hl rfl (nK (rR (kR (k_bloR (kR (k_bloR (kR (f_2 hl rfl (.inl rfl) rfl rfl ?_))))))))))
        have ht : t = [] := by cases t with | nil => rfl | cons y t => (simp at h4; omega)
        subst ht
        have hu : unpk 0 0 s = .error 24 := by rw [show unpk 0 0 s = _ from hO]; simp [unpk, Except.map]
        rw [hu]; exact ⟨rfl, rfl, by dsimp only at *; omega⟩
      · try simp only [dz, dy] at h4
        obtain ⟨y, t', rfl⟩ : ∃ y t', t = y :: t' := by cases t with | nil => (simp at h4) | cons y t' => exact ⟨y, t', rfl⟩
        have hy2 := hr256 y (by simp)
        have hyn : (UInt8.ofNat y).toNat = y := by simp [UInt8.toNat_ofNat, Nat.mod_eq_of_lt hy2]
        have hg4 := txt_get (s := x :: x :: x :: x :: y :: t') (i := 4) rfl
        simp only [List.length_cons] at hrl hol
        refine rK (kN (rS (sg 3 rfl (qM hl rfl (qJ hl rfl rfl Tryz.underlying9 (by omega) hg4 ?_)))))
        simp only [hyn]
        refine qB hl rfl rfl rfl (nK ?_)
        refine rC hl rfl (fun h251 => ?_) (fun h251 => ?_)
        · try simp only [dz, dy] at h251
          refine sg 2 rfl (qA hl rfl (qA hl rfl (nK (rR (kR (k_bloR (kR (k_bloR (kR (f_2 hl rfl (.inl rfl) rfl rfl ?_))))))))))
          have hu : unpk 0 0 s = .error 25 := by rw [show unpk 0 0 s = _ from hO]; simp only [unpk, if_true]; rw [if_pos (by omega)]; rfl
          rw [hu]; exact ⟨rfl, rfl, by dsimp only at *; omega⟩
        · try simp only [dz, dy] at h251
          refine rK (kN (rS (sg 5 rfl (qM hl rfl (qJ hl rfl rfl Tryz.underlying9 (by omega) hg4 ?_)))))
          simp only [hyn]
          refine qH hl rfl Tryz.underlying5 Tryz.underlying3 (by first | exact wI (by omega) | exact wU (by omega) | exact wB (by omega) | exact wL (by omega) | rfl) ?_
          refine qP hl rfl rfl (m := ((4 + y : Nat) : Int)) (by rw [wrapI (by omega) (by omega)]; omega) ?_
          refine qM hl rfl (nK (rB ?_))
          refine rL (fun m env' s' => ∃ j, m = 4 + y - j ∧ j ≤ 4 + y ∧ Hd 37 [(0, .string (txt (x :: x :: x :: x :: y :: t'))), (4, .string (txt (out ++ List.replicate j x))), (26, nv (4 + y)), (27, nv j)] env' ∧ s'.heap = h2 ∧ cc1 ≤ s'.ctr) (4 + y) ?_ ?_
          · exact ⟨0, rfl, Nat.zero_le _, Ho hl ⟨rfl, by rw [List.replicate_zero, List.append_nil]; rfl, rfl, rfl, trivial⟩, rfl, by dsimp only; omega⟩
          rintro m _ ⟨h3, c3⟩ ⟨j, rfl, hj, ⟨env, hl, rfl⟩, he, hc3⟩
          dsimp only at he hc3
          subst he
          refine sg 1 rfl (qB hl rfl rfl rfl (nK (rS ?_)))
          refine rC hl rfl (fun hjn => ?_) (fun hjn => ?_)
          · try simp only [dz, dy] at hjn
            refine rK (kN (rS (rB (rg 5 rfl (qM hl rfl (qM hl rfl (qT (s := x :: x :: x :: x :: y :: t') 0 1 hl rfl Tryz.underlying9 rfl rfl ⟨by omega, by simp⟩ ?_)))))))
            refine qB hl rfl rfl (addS _ _ (by simp; omega)) ?_
            refine qA hl rfl (rN (kO (kN (rg 2 rfl (qP hl rfl rfl (by first | exact wI (by omega) | exact wU (by omega) | exact wB (by omega) | exact wL (by omega) | rfl) ?_)))))
            refine qM hl rfl (nK ?_)
            exact ⟨4 + y - (j + 1), by omega, j + 1, rfl, by omega, Ho hl ⟨rfl, by rw [List.replicate_succ', ← List.append_assoc]; rfl, rfl, rfl, trivial⟩, rfl, by dsimp only; omega⟩
          · try simp only [dz, dy] at hjn
            have ej : j = 4 + y := by omega
            subst ej
            refine r_exit (kE (kE (kB (kN (rg 3 rfl (qM hl rfl (qT (s := x :: x :: x :: x :: y :: t') 5 (t'.length + 5) hl rfl Tryz.underlying9 rfl rfl ⟨by omega, by simp⟩ ?_)))))))
            refine qA hl rfl (rN (kO (kN ?_)))
            refine ⟨t'.length, by simp; omega, t', out ++ List.replicate (4 + y) x, rfl, Ho hl ⟨?_, rfl, trivial⟩, ?_, fun z hz => hr256 z (by simp [hz]), by omega, by simp; omega, rfl, by dsimp only at *; omega⟩
            · simp [lk, Nat.beq, Nat.blt, Nat.ble]
            · have e1 : unpk 4 x (y :: t') = (unpk 0 0 t').map (List.replicate y x ++ ·) := by simp only [unpk, if_true]; rw [if_neg (by omega), unpk_prev]
              rw [e1] at hO
              unfold Out at *; rw [hO]; have er4 : List.replicate (4 + y) x = x :: x :: x :: x :: List.replicate y x := (by rw [Nat.add_comm]; rfl); cases unpk 0 0 t' <;> simp [Except.map, er4]
  · try simp only [dz, dy] at hr0
    have hr00 : r.length = 0 := by omega
    have er : r = [] := List.eq_nil_of_length_eq_zero hr00
    subst er
    refine r_exit (kE (kE (kB (kN (sg 3 rfl (qM hl rfl (qA hl rfl (qA hl rfl (nK (rR (f_2 hl rfl (.inl rfl) rfl rfl ?_)))))))))))
    have hu : unpk 0 0 s = .ok out := by rw [show unpk 0 0 s = _ from hO]; simp [unpk, Except.map]
    rw [hu]; exact ⟨rfl, rfl, by dsimp only; omega⟩
end
theorem unpk_lt {s : List Nat} (h : ∀ x ∈ s, x < 256) : ∀ {run p : Nat} {out : List Nat}, p < 256 → unpk run p s = .ok out → ∀ x ∈ out, x < 256 := by
  induction s with
  | nil => intro run p out hp hu; simp only [unpk] at hu; split at hu <;> cases hu; simp
  | cons x s ih =>
    intro run p out hp hu
    have hx := h x (by simp)
    have ih' := fun {run p out} => ih (fun y hy => h y (by simp [hy])) (run := run) (p := p) (out := out)
    simp only [unpk] at hu
    split at hu
    · split at hu
      · cases hu
      · cases hq : unpk 0 x s with
        | error e' => rw [hq] at hu; cases hu
        | ok y =>
          rw [hq] at hu; cases hu
          intro z hz; rcases List.mem_append.mp hz with q | q
          · rw [List.mem_replicate] at q; omega
          · exact ih' hx hq z q
    · split at hu
      · cases hq : unpk (run + 1) x s with
        | error e' => rw [hq] at hu; cases hu
        | ok y => rw [hq] at hu; cases hu; intro z hz; rcases List.mem_cons.mp hz with q | q; omega; exact ih' hx hq z q
      · cases hq : unpk 1 x s with
        | error e' => rw [hq] at hu; cases hu
        | ok y => rw [hq] at hu; cases hu; intro z hz; rcases List.mem_cons.mp hz with q | q; omega; exact ih' hx hq z q
section
variable {ov : OvT} (H : OvH ov)
include H
theorem rOpen_cr {h : Heap} {c o sum : Nat} {s : List Nat} (h256 : ∀ x ∈ s, x < 256) (hn : s.length ≤ 900000) (ho : o < s.length) (hs : sum < 4294967296) :
    CR Tryz.prog ov 26 [.agg #[.string (txt s), nv o, uv sum]] ⟨h, c⟩ (fun v st => (match openR s o sum with
      | .ok out => v = .tuple #[.string (txt out), nv 0]
      | .error e => v = .tuple #[nostr, nv e]) ∧ Keep [] h c st) := by
  have hsz := txt_size s
  have hD := fun (h' : Heap) (c' : Nat) => rDecode_cr H (h := h') (c := c') (unbw_lt (o := o) h256) (by rw [unbw_len]; omega)
  have hne : ((txt s).toList == (⟨#[]⟩ : ByteArray).toList) = false := by cases s with | nil => simp at ho | cons x s => simp [txt, Go.ByteArray.toList_eq]
  have h1 : decide ((o : Int) < 0) = false := by simp
  have hK0 : Keep [] h c ⟨h.set (c + 0) ⟨(Value.agg #[.string (txt s), nv o, uv sum]).cells.toList, 49, 0⟩, c⟩ := (Keep.refl (Nat.le_refl c)).set (.inl (by omega))
  cases hu : unpk 0 0 (unbw s o) with
  | error e =>
    have he := unpk_err hu
    have ho' : openR s o sum = .error 25 := by simp only [openR, hu]
    rw [ho']
    simp only [hu] at hD
    refine e_1 Tryz.func26 rfl (H _ (by decide)) Tryz.ntmps26 (by decide) ?_
    intro env hl
    refine sg 3 rfl (q_box hl rfl (qA hl rfl (qA hl rfl (nK (rS (sg 3 rfl (qF hl rfl fa49_0 (qL hl rfl (by first | assumption | (simp only [gs]; rfl) | (simp [gs]; try rfl)) ((p9.1 _ _).trans rfl) ?_))))))))
    refine qB hl rfl rfl rfl (nK (rF hl rfl (by exact hne) ?_))
    refine rK (kN (rS (sg 11 rfl (qF hl rfl fa49_1 (qL hl rfl (by first | assumption | (simp only [gs]; rfl) | (simp [gs]; try rfl)) ((p3.1 _ _).trans rfl) ?_)))))
    refine qB hl rfl rfl rfl (qM hl rfl (qG hl rfl rfl rfl h1 (qF hl rfl fa49_1 (qG hl rfl rfl rfl h1 (qL hl rfl (by first | assumption | (simp only [gs]; rfl) | (simp [gs]; try rfl)) ((p3.1 _ _).trans rfl) ?_)))))
    refine qG hl rfl rfl rfl h1 (qF hl rfl fa49_0 (qG hl rfl rfl rfl h1 (qL hl rfl (by first | assumption | (simp only [gs]; rfl) | (simp [gs]; try rfl)) ((p9.1 _ _).trans rfl) ?_)))
    refine qG hl rfl rfl rfl h1 (qK hl rfl Tryz.underlying9 (qG hl rfl rfl rfl h1 ?_))
    rw [hsz]
    refine qB hl rfl rfl rfl (qQ hl rfl rfl rfl (if_neg (by rw [h1]; decide)) ?_)
    refine nK (rF hl rfl (by first | rfl | (simp only [dz]; omega) | (simp; done) | (simp; omega)) ?_)
    refine rK (kN (sg 11 rfl (qF hl rfl fa49_0 (qL hl rfl (by first | assumption | (simp only [gs]; rfl) | (simp [gs]; try rfl)) ((p9.1 _ _).trans rfl) ?_))))
    refine qF hl rfl fa49_1 (qL hl rfl (by first | assumption | (simp only [gs]; rfl) | (simp [gs]; try rfl)) ((p3.1 _ _).trans rfl) ?_)
    refine qC hl rfl (CR.mono (rUnbw_cr H h256 (by omega) ho) ?_)
    rintro v ⟨hh1, cc1⟩ ⟨rfl, hK⟩
    refine qC hl rfl (CR.mono (hD _ _) ?_)
    rintro v ⟨hh2, cc2⟩ ⟨rfl, rfl, hk⟩
    try dsimp only at hk
    refine qM hl rfl (qE hl rfl rfl (qE hl rfl rfl (qA hl rfl (qA hl rfl (nK (rS (sg 2 rfl (qM hl rfl (qB hl rfl rfl rfl (nK (rT hl rfl (by simp; omega) ?_)))))))))))
    refine sg 2 rfl (qA hl rfl (qA hl rfl (nK (rR (kR (f_2 hl rfl (.inl rfl) rfl rfl ?_))))))
    exact ⟨rfl, (hK0.call (hK.base (c0 := c) (by omega)) (by simp)).up (by omega)⟩
  | ok out =>
    simp only [hu] at hD
    have hol := unpk_len (unbw_lt (o := o) h256) hu
    rw [unbw_len] at hol
    have hO := unpk_lt (unbw_lt (o := o) h256) (by omega) hu
    refine e_1 Tryz.func26 rfl (H _ (by decide)) Tryz.ntmps26 (by decide) ?_
    intro env hl
    refine sg 3 rfl (q_box hl rfl (qA hl rfl (qA hl rfl (nK (rS (sg 3 rfl (qF hl rfl fa49_0 (qL hl rfl (by first | assumption | (simp only [gs]; rfl) | (simp [gs]; try rfl)) ((p9.1 _ _).trans rfl) ?_))))))))
    refine qB hl rfl rfl rfl (nK (rF hl rfl (by exact hne) ?_))
    refine rK (kN (rS (sg 11 rfl (qF hl rfl fa49_1 (qL hl rfl (by first | assumption | (simp only [gs]; rfl) | (simp [gs]; try rfl)) ((p3.1 _ _).trans rfl) ?_)))))
    refine qB hl rfl rfl rfl (qM hl rfl (qG hl rfl rfl rfl h1 (qF hl rfl fa49_1 (qG hl rfl rfl rfl h1 (qL hl rfl (by first | assumption | (simp only [gs]; rfl) | (simp [gs]; try rfl)) ((p3.1 _ _).trans rfl) ?_)))))
    refine qG hl rfl rfl rfl h1 (qF hl rfl fa49_0 (qG hl rfl rfl rfl h1 (qL hl rfl (by first | assumption | (simp only [gs]; rfl) | (simp [gs]; try rfl)) ((p9.1 _ _).trans rfl) ?_)))
    refine qG hl rfl rfl rfl h1 (qK hl rfl Tryz.underlying9 (qG hl rfl rfl rfl h1 ?_))
    rw [hsz]
    refine qB hl rfl rfl rfl (qQ hl rfl rfl rfl (if_neg (by rw [h1]; decide)) ?_)
    refine nK (rF hl rfl (by first | rfl | (simp only [dz]; omega) | (simp; done) | (simp; omega)) ?_)
    refine rK (kN (sg 11 rfl (qF hl rfl fa49_0 (qL hl rfl (by first | assumption | (simp only [gs]; rfl) | (simp [gs]; try rfl)) ((p9.1 _ _).trans rfl) ?_))))
    refine qF hl rfl fa49_1 (qL hl rfl (by first | assumption | (simp only [gs]; rfl) | (simp [gs]; try rfl)) ((p3.1 _ _).trans rfl) ?_)
    refine qC hl rfl (CR.mono (rUnbw_cr H h256 (by omega) ho) ?_)
    rintro v ⟨hh1, cc1⟩ ⟨rfl, hK⟩
    refine qC hl rfl (CR.mono (hD _ _) ?_)
    rintro v ⟨hh2, cc2⟩ ⟨rfl, rfl, hk⟩
    try dsimp only at hk
    refine qM hl rfl (qE hl rfl rfl (qE hl rfl rfl (qA hl rfl (qA hl rfl (nK (rS (sg 2 rfl (qM hl rfl (qB hl rfl rfl rfl (nK (rF hl rfl (by first | rfl | (simp only [dz]; omega) | (simp; done) | (simp; omega)) ?_)))))))))))
    refine rK (kN (rS (rS (rD [(3, 0)] (by decide +kernel) (by decide +kernel) (n := 5) rfl ?_))))
    have hcc1 := hK.1
    dsimp only at hcc1
    have hb1 := (hK.2 (c + 0) (by omega) (by simp)).trans ((T.get_set _ _ _ _).trans (if_pos rfl))
    refine qM hl rfl (qC hl rfl (CR.mono (rOf_cr H hO (by omega)) ?_))
    rintro v ⟨hh3, cc3⟩ ⟨rfl, rfl, hk⟩
    try dsimp only at hk
    refine qF hl rfl fa49_2 (qL hl rfl (by first | assumption | (simp only [gs]; rfl) | (simp [gs]; try rfl)) ((p38.1 _ _).trans rfl) ?_)
    refine qB hl rfl rfl rfl ?_
    refine ro_nilp ?_ ?_
    · exact all1 (pair_load hl rfl rfl rfl rfl ((heapAt_old rfl (by omega)).trans hb1) ((p38.1 _ _).trans rfl) rfl (same_int _ _))
    refine kN ?_
    refine rC hl rfl (fun hne2 => ?_) (fun hne2 => ?_)
    · try simp only [dz, dy] at hne2
      refine sg 2 rfl (qA hl rfl (qA hl rfl (nK (rR (kR (f_2 hl rfl (.inl rfl) rfl rfl ?_))))))
      have e1 : openR s o sum = .error 21 := by simp only [openR, hu]; rw [if_neg (by omega)]
      rw [e1]
      exact ⟨rfl, (hK0.call (hK.base (c0 := c) (by omega)) (by simp)).up (by omega)⟩
    · try simp only [dz, dy] at hne2
      refine rK (kN (sg 3 rfl (qM hl rfl (qA hl rfl (qA hl rfl (nK (rR (f_2 hl rfl (.inl rfl) rfl rfl ?_))))))))
      have e1 : openR s o sum = .ok out := by simp only [openR, hu]; rw [if_pos (by simp only [bne_eq_false_iff_eq] at hne2; omega)]
      rw [e1]
      exact ⟨rfl, (hK0.call (hK.base (c0 := c) (by omega)) (by simp)).up (by omega)⟩
end
theorem ones_le (a : List Bool) : ones a ≤ a.length := by
  induction a with
  | nil => simp [ones]
  | cons t a ih => cases t <;> simp [ones]; omega
section
variable {ov : OvT} (H : OvH ov)
include H
theorem rOnes_cr {h : Heap} {c : Nat} {L : List Bool} (hL : L.length ≤ 1000000) :
    CR Tryz.prog ov 199 [.string (zs L)] ⟨h, c⟩ (fun w st => w = nv (ones L) ∧ Same h c st) := by
  have hsz : (zs L).size = L.length := by rw [txt_size, zl_len]
  refine e_1 Tryz.func199 rfl (H _ (by decide)) Tryz.ntmps199 (by decide) ?_
  intro env hl
  refine sg 1 rfl (qA hl rfl (nK (sg 1 rfl (qA hl rfl (nK (rS (rB ?_)))))))
  refine rL (fun m env' s' => ∃ j, m = L.length - j ∧ j ≤ L.length ∧ ones (L.take j) = j ∧ Hd 17 [(0, .string (zs L)), (3, nv j)] env' ∧ s'.heap = h ∧ c ≤ s'.ctr) L.length ?_ ?_
  · exact ⟨0, rfl, Nat.zero_le _, rfl, Ho hl ⟨rfl, rfl, trivial⟩, rfl, by dsimp only; omega⟩
  rintro m _ ⟨h2, c2⟩ ⟨j, rfl, hj, hon, ⟨env, hl, rfl⟩, he, hc2⟩
  dsimp only at he hc2
  subst he
  have hat := ones_at (t := L.length) hon hj hj
  rw [List.take_length] at hat
  refine rS (sg 10 rfl (qM hl rfl (qM hl rfl (qK hl rfl Tryz.underlying9 ?_))))
  rw [hsz]
  refine qB hl rfl rfl rfl (qM hl rfl ?_)
  refine q_case hl (rfl : lk _ _ 8 = _) (fun hg => ?_) (fun hg => ?_)
  · have hg_ := hg
    try simp only [dz] at hg_
    obtain ⟨t, ht⟩ : ∃ t, L[j]? = some t := ⟨_, List.getElem?_eq_getElem (by omega)⟩
    have hd1 := drop_cons ht
    refine qG hl rfl rfl rfl hg (qM hl rfl (qG hl rfl rfl rfl hg (qM hl rfl (qG hl rfl rfl rfl hg (qJ hl rfl rfl Tryz.underlying9 (by omega) (txt_get (zl_get ht)) ?_)))))
    refine qG hl rfl rfl rfl hg ?_
    simp only [zb_nat]
    refine qB hl rfl rfl rfl (qQ hl rfl rfl rfl (if_pos hg) (nK ?_))
    refine rC hl rfl (fun h49 => ?_) (fun h49 => ?_)
    · try simp only [dz, dy] at h49
      have htt : t = true := by cases t with | true => rfl | false => (simp at h49)
      subst htt
      refine rK (kN (rB (rg 3 rfl (qM hl rfl (qP hl rfl rfl (by first | exact wI (by omega) | exact wU (by omega) | exact wB (by omega) | exact wL (by omega) | rfl) ?_)))))
      refine qA hl rfl (rN (kO (kN ?_)))
      refine ⟨L.length - (j + 1), by omega, j + 1, rfl, by omega, ?_, Ho hl ⟨rfl, rfl, trivial⟩, rfl, by dsimp only; omega⟩
      rw [ones_at hon (show j ≤ j + 1 by omega) hj, hd1, Nat.add_sub_cancel_left]; rfl
    · try simp only [dz, dy] at h49
      have htt : t = false := by cases t with | false => rfl | true => (simp at h49)
      subst htt
      refine r_exit (kE (kE (kB (kN (sg 2 rfl (qM hl rfl (qA hl rfl (nK (rR (f_1 hl rfl (.inl rfl) rfl ?_))))))))))
      have e1 : ones L = j := by rw [hat, hd1, show L.length - j = (L.length - j - 1) + 1 by omega]; simp [ones]
      rw [e1]; exact ⟨rfl, rfl, by dsimp only; omega⟩
  · have hg_ := hg
    try simp only [dz] at hg_
    refine qS hl rfl rfl rfl rfl (by rw [hg]; decide) ?_
    refine qS hl rfl rfl rfl rfl (by rw [hg]; decide) ?_
    refine qS hl rfl rfl rfl rfl (by rw [hg]; decide) ?_
    refine qS hl rfl rfl rfl rfl (by rw [hg]; decide) ?_
    refine qQ hl rfl rfl rfl (if_neg (by rw [hg]; decide)) ?_
    refine nK (rF hl rfl (by first | rfl | (simp only [dz]; omega) | (simp; done) | (simp; omega)) ?_)
    refine r_exit (kE (kE (kB (kN (sg 2 rfl (qM hl rfl (qA hl rfl (nK (rR (f_1 hl rfl (.inl rfl) rfl ?_))))))))))
    have ej : j = L.length := by omega
    have e1 : ones L = j := by rw [hat, List.drop_eq_nil_of_le (by omega)]; simp [ones]
    rw [e1]; exact ⟨rfl, rfl, by dsimp only; omega⟩
theorem rTouch_cr {h : Heap} {c i : Nat} {l : List Nat} (hi : i < l.length) (hL : l.length ≤ 1000000) :
    CR Tryz.prog ov 181 [.string (txt l), nv i] ⟨h, c⟩ (fun w st => w = .string (txt (moved l i)) ∧ Same h c st) := by
  obtain ⟨x, hx⟩ : ∃ x, l[i]? = some x := ⟨_, List.getElem?_eq_getElem hi⟩
  have hm : [x] ++ ((l.drop 0).take (i - 0)) ++ ((l.drop (i + 1)).take (l.length - (i + 1))) = moved l i := by
    have e : (l.drop (i + 1)).take (l.length - (i + 1)) = l.drop (i + 1) := List.take_of_length_le (by simp)
    rw [e, moved, List.eraseIdx_eq_take_drop_succ, List.getD_eq_getElem?_getD, hx]; simp
  refine e_2 Tryz.func181 rfl (H _ (by decide)) Tryz.ntmps181 (by decide) ?_
  intro env hl
  refine sg 1 rfl (qA hl rfl (nK (rS (rD [] (by decide +kernel) (by decide +kernel) (n := 15) rfl ?_))))
  refine qM hl rfl (qM hl rfl (qM hl rfl (qP hl rfl rfl (by first | exact wI (by omega) | exact wU (by omega) | exact wB (by omega) | exact wL (by omega) | rfl) ?_)))
  refine qT (s := l) i (i + 1) hl rfl Tryz.underlying9 rfl rfl ⟨by omega, by omega⟩ ?_
  simp only [take1 hx]
  refine qM hl rfl (qM hl rfl (qT (s := l) 0 i hl rfl Tryz.underlying9 rfl rfl ⟨by omega, by omega⟩ ?_))
  refine qB hl rfl rfl (addS _ _ (by simp; omega)) ?_
  refine qM hl rfl (qM hl rfl (qP hl rfl rfl (by first | exact wI (by omega) | exact wU (by omega) | exact wB (by omega) | exact wL (by omega) | rfl) ?_))
  refine qT (s := l) (i + 1) l.length hl rfl Tryz.underlying9 rfl rfl ⟨by omega, by omega⟩ ?_
  refine qB hl rfl rfl (addS _ _ (by simp; omega)) ?_
  refine qA hl rfl (ro_nild (kN (rR (f_1 hl rfl (.inl rfl) rfl ?_))))
  exact ⟨by rw [← hm], rfl, by dsimp only; omega⟩
end
theorem idx_take {L : List Bool} {i k : Nat} {t : Bool} (h : L[i]? = some t) : idx (L.take (i + 1)) k = idx (L.take i) k ++ (if t then [k + i] else []) := by
  have hi : i < L.length := by rcases Nat.lt_or_ge i L.length with q | q; exact q; rw [List.getElem?_eq_none q] at h; cases h
  rw [List.take_add_one, h, idx_append]
  have e : (L.take i).length = i := by rw [List.length_take]; omega
  rw [e]; cases t <;> simp [idx]
section
variable {ov : OvT} (H : OvH ov)
include H
theorem rUsed_cr {h : Heap} {c : Nat} {L : List Bool} (hL : L.length ≤ 1000000) :
    CR Tryz.prog ov 144 [.string (zs L)] ⟨h, c⟩ (fun v st => (match usedR L with
      | .ok (s, n) => v = .agg #[.string (txt s), nv n, nv 0]
      | .error e => v = .agg #[nostr, nv 0, nv e]) ∧ Keep [] h c st) := by
  have hsz : (zs L).size = L.length := by rw [txt_size, zl_len]
  by_cases h16 : L.length < 16
  · have hu : usedR L = .error 3 := by simp only [usedR]; rw [if_pos h16]
    rw [hu]
    refine e_1 Tryz.func144 rfl (H _ (by decide)) Tryz.ntmps144 (by decide) ?_
    intro env hl
    refine sg 1 rfl (qZ i200 z200 rfl (nK (rS (sg 3 rfl (qM hl rfl (qK hl rfl Tryz.underlying9 ?_))))))
    rw [hsz]
    refine qB hl rfl rfl rfl (nK (rT hl rfl (by first | rfl | (simp only [dz]; omega) | (simp; done) | (simp; omega)) ?_))
    refine sg 2 rfl (qU hl rfl i200 z200 rfl (by simp [Program.built, Instr.fill, Tryz.underlying200, Value.cells]; rfl) ?_)
    refine qV hl rfl rfl (by first | assumption | (simp only [gs]; rfl) | (simp [gs]; try rfl)) p200 rfl rfl (by simp [Value.cells]) ?_
    refine nK (rR (kR (f_c hl rfl (.inl rfl) rfl  (T.get_set _ _ _ _ |>.trans (if_pos rfl)) ((p200.1 _ _).trans rfl) ?_)))
    exact ⟨rfl, (((Keep.refl (Nat.le_refl c)).set (.inl (by omega))).set (.inl (by omega))).up (by omega)⟩
  · have hul : usedR L = match rowsR (idx (L.take 16) 0) (L.drop 16) with
      | none => .error 3
      | some (s, n) => if s = [] then .error 25 else .ok (s, 16 + n) := by simp only [usedR]; rw [if_neg h16]; rfl
    have hd16 : (L.drop 16).length = L.length - 16 := List.length_drop
    refine e_1 Tryz.func144 rfl (H _ (by decide)) Tryz.ntmps144 (by decide) ?_
    intro env hl
    refine sg 1 rfl (qZ i200 z200 rfl (nK (rS (sg 3 rfl (qM hl rfl (qK hl rfl Tryz.underlying9 ?_))))))
    rw [hsz]
    refine qB hl rfl rfl rfl (nK (rF hl rfl (by first | rfl | (simp only [dz]; omega) | (simp; done) | (simp; omega)) ?_))
    refine rK (kN (sg 1 rfl (qA hl rfl (nK (sg 1 rfl (qA hl rfl (nK (rS (sg 1 rfl (qM hl rfl (nK (rB ?_))))))))))))
    refine rL (fun m env' s' => ∃ i s n, m = 16 - i ∧ i ≤ 16 ∧ Hd 52 [(0, .string (zs L)), (2, ptr c), (3, nv (16 + n)), (4, .string (txt s)), (11, nv i)] env' ∧ rowsR (idx (L.take i) 0) (L.drop 16) = some (s, n) ∧ s.length ≤ n ∧ n ≤ 16 * i ∧ s'.heap.get c = some ⟨[nostr, nv 0, nv 0], 200, 0⟩ ∧ c + 1 ≤ s'.ctr ∧ Keep [] h c s') 16 ?_ ?_
    · exact ⟨0, [], 0, rfl, by omega, Ho hl ⟨rfl, rfl, rfl, rfl, rfl, trivial⟩, rfl, by simp, by simp, (T.get_set _ _ _ _).trans (if_pos rfl), by dsimp only; omega, ((Keep.refl (Nat.le_refl c)).set (.inl (by omega))).up (by omega)⟩
    rintro m _ ⟨h2, c2⟩ ⟨i, s, n, rfl, hi, ⟨env, hl, rfl⟩, hrw, hsn, hni, hb0, hc2, hK⟩
    dsimp only at hb0 hc2
    refine sg 1 rfl (qB hl rfl rfl rfl (nK (rS ?_)))
    refine rC hl rfl (fun hi16 => ?_) (fun hi16 => ?_)
    · try simp only [dz, dy] at hi16
      obtain ⟨t, ht⟩ : ∃ t, L[i]? = some t := ⟨_, List.getElem?_eq_getElem (by omega)⟩
      have hix := idx_take (k := 0) ht
      refine rK (kN (rS (rB (sg 2 rfl (qM hl rfl (qA hl rfl (nK (rS (sg 4 rfl (qM hl rfl (qM hl rfl (qJ hl rfl rfl Tryz.underlying9 (by omega) (txt_get (zl_get ht)) ?_))))))))))))
      simp only [zb_nat]
      refine qB hl rfl rfl rfl (nK ?_)
      refine rC hl rfl (fun hne => ?_) (fun hne => ?_)
      · try simp only [dz, dy] at hne
        have htt : t = false := by cases t with | false => rfl | true => (simp at hne)
        subst htt
        refine r_exit (kE (kB (kN (rg 2 rfl (qP hl rfl rfl (by first | exact wI (by omega) | exact wU (by omega) | exact wB (by omega) | exact wL (by omega) | rfl) ?_)))))
        refine qM hl rfl (nK ?_)
        exact ⟨16 - (i + 1), by omega, i + 1, s, n, rfl, by omega, Ho hl ⟨rfl, rfl, rfl, rfl, rfl, trivial⟩, by rw [hix]; simpa using hrw, hsn, by omega, hb0, by dsimp only; omega, hK.up (by omega)⟩
      · try simp only [dz, dy] at hne
        have htt : t = true := by cases t with | true => rfl | false => (simp at hne)
        subst htt
        have hsnoc := rowsR_snoc _ i _ _ _ hrw
        simp only [if_true, Nat.zero_add] at hix
        rw [← hix] at hsnoc
        refine rK (kN (rS (sg 5 rfl (qM hl rfl (qK hl rfl Tryz.underlying9 ?_)))))
        rw [hsz]
        refine qM hl rfl (qP hl rfl rfl (by first | exact wI (by omega) | exact wU (by omega) | exact wB (by omega) | exact wL (by omega) | rfl) ?_)
        refine qB hl rfl rfl rfl (nK ?_)
        refine rC hl rfl (fun hsh => ?_) (fun hsh => ?_)
        · try simp only [dz, dy] at hsh
          refine sg 2 rfl (qU hl rfl i200 z200 rfl (by simp [Program.built, Instr.fill, Tryz.underlying200, Value.cells]; rfl) ?_)
          refine qV hl rfl rfl (by first | assumption | (simp only [gs, hb0]; rfl) | (simp [gs, hb0]; try rfl)) p200 rfl rfl (by simp [Value.cells]) ?_
          refine nK (rR (kR (k_bloR (kR (kR (k_bloR (kR (f_c hl rfl (.inl rfl) rfl  (T.get_set _ _ _ _ |>.trans (if_pos rfl)) ((p200.1 _ _).trans rfl) ?_))))))))
          have hn0 : rowsR (idx (L.take (i + 1)) 0) (L.drop 16) = none := by rw [hsnoc, if_pos (by omega)]
          have hsp : idx (L.take 16) 0 = idx (L.take (i + 1)) 0 ++ idx ((L.drop (i + 1)).take (15 - i)) (0 + (L.take (i + 1)).length) := by rw [← idx_append, ← List.take_add]; congr 2; omega
          rw [hul, hsp, rowsR_none _ _ _ hn0]
          exact ⟨rfl, (hK.set (.inl (by omega))).up (by omega)⟩
        · try simp only [dz, dy] at hsh
          rw [if_neg (by omega), List.drop_drop] at hsnoc
          refine rK (kN (rS (sg 1 rfl (qM hl rfl (nK (rB ?_))))))
          refine rL (fun m env' s' => ∃ j, m = 16 - j ∧ j ≤ 16 ∧ Hd 52 [(0, .string (zs L)), (2, ptr c), (3, nv (16 + n)), (5, nv i), (11, nv i), (4, .string (txt (s ++ idx ((L.drop (16 + n)).take j) (16 * i)))), (24, nv j)] env' ∧ s'.heap.get c = some ⟨[nostr, nv 0, nv 0], 200, 0⟩ ∧ c2 ≤ s'.ctr ∧ Keep [] h c s') 16 ?_ ?_
          · exact ⟨0, rfl, by omega, Ho hl ⟨rfl, rfl, rfl, rfl, rfl, by simp [idx, lk, Nat.beq, Nat.blt, Nat.ble], rfl, trivial⟩, hb0, by dsimp only; omega, hK.up (by omega)⟩
          rintro m _ ⟨h3, c3⟩ ⟨j, rfl, hj, ⟨env, hl, rfl⟩, hb0, hc3, hK⟩
          dsimp only at hb0 hc3
          refine sg 1 rfl (qB hl rfl rfl rfl (nK (rS ?_)))
          refine rC hl rfl (fun hj16 => ?_) (fun hj16 => ?_)
          · try simp only [dz, dy] at hj16
            obtain ⟨t, ht2⟩ : ∃ t, L[16 + n + j]? = some t := ⟨_, List.getElem?_eq_getElem (by omega)⟩
            have hjx : (L.drop (16 + n))[j]? = some t := by rw [List.getElem?_drop]; exact ht2
            have hiy := idx_take (k := 16 * i) hjx
            have hxle := idx_le ((L.drop (16 + n)).take j) (16 * i); rw [List.length_take] at hxle
            refine rK (kN (rS (rB (sg 2 rfl (qM hl rfl (qA hl rfl (nK (sg 6 rfl (qM hl rfl (qM hl rfl (qM hl rfl (qP hl rfl rfl (by first | exact wI (by omega) | exact wU (by omega) | exact wB (by omega) | exact wL (by omega) | rfl) ?_))))))))))))
            refine qJ hl rfl rfl Tryz.underlying9 (by omega) (by have := txt_get (zl_get ht2); rw [show (((16 + n : Nat) : Int) + (j : Int)).toNat = 16 + n + j by omega]; exact this) ?_
            simp only [zb_nat]
            refine qB hl rfl rfl rfl (nK ?_)
            refine rC hl rfl (fun h1 => ?_) (fun h1 => ?_)
            · try simp only [dz, dy] at h1
              have htt : t = true := by cases t with | true => rfl | false => (simp at h1)
              subst htt
              have hxn : (UInt8.ofNat (16 * i + j)).toNat = 16 * i + j := by simp [UInt8.toNat_ofNat]; omega
              refine rg 10 rfl (qM hl rfl (qM hl rfl (q_mul hl rfl rfl (by first | exact wI (by omega) | exact wU (by omega) | exact wB (by omega) | exact wL (by omega) | rfl) ?_)))
              refine qM hl rfl (qP hl rfl rfl (by first | exact wI (by omega) | exact wU (by omega) | exact wB (by omega) | exact wL (by omega) | rfl) ?_)
              refine qH hl rfl Tryz.underlying3 Tryz.underlying5 (m := ((16 * i + j : Nat) : Int)) (by rw [wrapU8 (by omega) (by omega)]; omega) ?_
              refine q1_ hl rfl a102 rfl (qY hl rfl Tryz.underlying102 Tryz.underlying9 Tryz.underlying5 (bs := [UInt8.ofNat (16 * i + j)]) (.inr ⟨_, rfl, rfl, by simp only [List.map_cons, List.map_nil, hxn]; exact (T.get_set _ _ _ _).trans (if_pos rfl), by simp, by omega⟩) ?_)
              refine qB hl rfl rfl (addS (s ++ idx ((L.drop (16 + n)).take j) (16 * i)) [16 * i + j] (by rw [List.length_append]; simp; omega)) ?_
              refine qA hl rfl (rN (kO (kN (rg 2 rfl (qP hl rfl rfl (by first | exact wI (by omega) | exact wU (by omega) | exact wB (by omega) | exact wL (by omega) | rfl) ?_)))))
              refine qM hl rfl (nK ?_)
              refine ⟨16 - (j + 1), by omega, j + 1, rfl, by omega, Ho hl ⟨rfl, rfl, rfl, rfl, rfl, by rw [hiy, if_pos rfl, ← List.append_assoc]; rfl, rfl, trivial⟩, ?_, by dsimp only; omega, (hK.set (.inl (by omega))).up (by omega)⟩
              dsimp only; rw [T.get_set, if_neg (by omega)]; exact hb0
            · try simp only [dz, dy] at h1
              have htt : t = false := by cases t with | false => rfl | true => (simp at h1)
              subst htt
              refine rK (kO (kN (rg 2 rfl (qP hl rfl rfl (by first | exact wI (by omega) | exact wU (by omega) | exact wB (by omega) | exact wL (by omega) | rfl) ?_))))
              refine qM hl rfl (nK ?_)
              exact ⟨16 - (j + 1), by omega, j + 1, rfl, by omega, Ho hl ⟨rfl, rfl, rfl, rfl, rfl, by rw [hiy]; simp [lk, Nat.beq, Nat.blt, Nat.ble], rfl, trivial⟩, hb0, by dsimp only; omega, hK.up (by omega)⟩
          · try simp only [dz, dy] at hj16
            have ej : j = 16 := by omega
            subst ej
            have hxle := idx_le ((L.drop (16 + n)).take 16) (16 * i); rw [List.length_take] at hxle
            refine r_exit (kE (kE (kB (kN (rg 3 rfl (qM hl rfl (qP hl rfl rfl (by first | exact wI (by omega) | exact wU (by omega) | exact wB (by omega) | exact wL (by omega) | rfl) ?_)))))))
            refine qA hl rfl (rN (kO (kN (rg 2 rfl (qP hl rfl rfl (by first | exact wI (by omega) | exact wU (by omega) | exact wB (by omega) | exact wL (by omega) | rfl) ?_)))))
            refine qM hl rfl (nK ?_)
            refine ⟨16 - (i + 1), by omega, i + 1, _, n + 16, rfl, by omega, Ho hl ⟨rfl, rfl, ?_, rfl, rfl, trivial⟩, hsnoc, by rw [List.length_append]; omega, by omega, hb0, by dsimp only; omega, hK.up (by omega)⟩
            have e1 : ((16 + n : Nat) : Int) + 16 = ((16 + (n + 16) : Nat) : Int) := by omega
            exact congrArg (fun z => some (Value.int .i64 z)) e1
    · try simp only [dz, dy] at hi16
      have ei : i = 16 := by omega
      subst ei
      rw [hrw] at hul
      refine r_exit (kE (kE (kB (kN (rS (sg 2 rfl (qM hl rfl (qB hl rfl rfl rfl (nK ?_)))))))))
      refine rC hl rfl (fun hs => ?_) (fun hs => ?_)
      · try simp only [dz, dy] at hs
        refine sg 2 rfl (qU hl rfl i200 z200 rfl (by simp [Program.built, Instr.fill, Tryz.underlying200, Value.cells]; rfl) ?_)
        refine qV hl rfl rfl (by first | assumption | (simp only [gs, hb0]; rfl) | (simp [gs, hb0]; try rfl)) p200 rfl rfl (by simp [Value.cells]) ?_
        refine nK (rR (kR (f_c hl rfl (.inl rfl) rfl  (T.get_set _ _ _ _ |>.trans (if_pos rfl)) ((p200.1 _ _).trans rfl) ?_)))
        have hs0 : s = [] := by simpa [txt, Go.ByteArray.toList_eq] using hs
        rw [hul]; simp only [hs0, if_true]
        exact ⟨rfl, (hK.set (.inl (by omega))).up (by omega)⟩
      · try simp only [dz, dy] at hs
        refine rK (kN (sg 4 rfl (qM hl rfl (qM hl rfl (qU hl rfl i200 z200 rfl (by simp [Program.built, Instr.fill, Tryz.underlying200, Value.cells]; rfl) ?_)))))
        refine qV hl rfl rfl (by first | assumption | (simp only [gs, hb0]; rfl) | (simp [gs, hb0]; try rfl)) p200 rfl rfl (by simp [Value.cells]) ?_
        refine nK (rR (f_c hl rfl (.inl rfl) rfl  (T.get_set _ _ _ _ |>.trans (if_pos rfl)) ((p200.1 _ _).trans rfl) ?_))
        have hs0 : s ≠ [] := by simpa [txt, Go.ByteArray.toList_eq] using hs
        rw [hul]; simp only [hs0, if_false]
        exact ⟨rfl, (hK.set (.inl (by omega))).up (by omega)⟩
end
def deFin (d : De) (l : List Bool) : Bool := d.done
def DeltaR (size : Nat) (L : List Bool) (r : Except Nat (De × Nat)) : Prop := Runs De.step deFin L ⟨size, 0, []⟩ 0 r
section
variable {ov : OvT} (H : OvH ov)
include H
theorem rDelta_cr {h : Heap} {c size : Nat} {L : List Bool} (hL : L.length ≤ 1000000) (hz : 3 ≤ size ∧ size ≤ 258) :
    CR Tryz.prog ov 200 [.string (zs L), nv size] ⟨h, c⟩ (fun v st => (∃ r, DeltaR size L r ∧ match r with
      | .ok (d, n) => ∃ a cp, v = .agg #[.slice a d.lens.length cp, nv n, nv 0] ∧ SlR 3 1 (d.lens.map nv) a d.lens.length cp st.heap.get ∧ (∀ z ∈ own a, c ≤ z ∧ z < st.ctr)
      | .error e => v = .agg #[nilS, nv 0, nv e]) ∧ Keep [] h c st) := by
  have hsz : (zs L).size = L.length := by rw [txt_size, zl_len]
  have hf0 : deFin ⟨size, 0, []⟩ (L.drop 0) = false := by simp [deFin, De.done]; omega
  have hERR : ∀ {e : Nat} {h3 : Heap} {c3 : Nat} {v : Value}, DeltaR size L (.error e) → v = .agg #[nilS, nv 0, nv e] → (∃ r, DeltaR size L r ∧ match r with
      | .ok (d, n) => ∃ a cp, v = .agg #[.slice a d.lens.length cp, nv n, nv 0] ∧ SlR 3 1 (d.lens.map nv) a d.lens.length cp h3.get ∧ (∀ z ∈ own a, c ≤ z ∧ z < c3)
      | .error e => v = .agg #[nilS, nv 0, nv e]) := fun q1 q2 => ⟨_, q1, q2⟩
  by_cases h5 : L.length < 5
  · skip
    refine e_2 Tryz.func200 rfl (H _ (by decide)) Tryz.ntmps200 (by decide) ?_
    intro env hl
    refine sg 1 rfl (qZ i272 z272 rfl (nK (rS (sg 3 rfl (qM hl rfl (qK hl rfl Tryz.underlying9 ?_))))))
    rw [hsz]
    refine qB hl rfl rfl rfl (nK (rT hl rfl (by first | rfl | (simp only [dz]; omega) | (simp; done) | (simp; omega)) ?_))
    refine sg 2 rfl (qU hl rfl i272 z272 rfl (by simp [Program.built, Instr.fill, Tryz.underlying272, Value.cells]; rfl) ?_)
    refine qV hl rfl rfl (by first | assumption | (simp only [gs]; rfl) | (simp [gs]; try rfl)) p272 rfl rfl (by simp [Value.cells]) ?_
    refine nK (rR (kR (f_c hl rfl (.inl rfl) rfl  (T.get_set _ _ _ _ |>.trans (if_pos rfl)) ((p272.1 _ _).trans rfl) ?_)))
    refine ⟨hERR (e := 3) (.fail hf0 ?_) rfl, (((Keep.refl (Nat.le_refl c)).set (.inl (by omega))).set (.inl (by omega))).up (by omega)⟩
    simp only [De.step, List.drop_zero, if_true]; rw [if_pos h5]
  · have e5 : (L.take 5).length = 5 := by rw [List.length_take]; omega
    have hlt5 := num_lt (L.take 5); rw [e5] at hlt5
    have hz5 : ((zl L).drop 0).take (5 - 0) = zl (L.take 5) := by simp [zl]
    refine e_2 Tryz.func200 rfl (H _ (by decide)) Tryz.ntmps200 (by decide) ?_
    intro env hl
    refine sg 1 rfl (qZ i272 z272 rfl (nK (rS (sg 3 rfl (qM hl rfl (qK hl rfl Tryz.underlying9 ?_))))))
    rw [hsz]
    refine qB hl rfl rfl rfl (nK (rF hl rfl (by first | rfl | (simp only [dz]; omega) | (simp; done) | (simp; omega)) ?_))
    refine rK (kN (sg 5 rfl (qM hl rfl (qT (s := zl L) 0 5 hl rfl Tryz.underlying9 rfl rfl ⟨by omega, by rw [zl_len]; omega⟩ ?_))))
    simp only [hz5]
    refine qC hl rfl (CR.mono (rNumber_cr H (L := L.take 5) (by omega)) ?_)
    rintro v ⟨hh1, cc1⟩ ⟨rfl, rfl, hk⟩
    try dsimp only at hk
    refine qH hl rfl Tryz.underlying38 Tryz.underlying3 (by first | exact wI (by omega) | exact wU (by omega) | exact wB (by omega) | exact wL (by omega) | rfl) ?_
    refine qA hl rfl (nK (rS (sg 6 rfl (qM hl rfl (qB hl rfl rfl rfl (qM hl rfl ?_))))))
    refine q_case hl (rfl : lk _ _ 18 = _) (fun hlo => ?_) (fun hlo => ?_)
    · have hlo_ := hlo
      try simp only [dz] at hlo_
      refine qS hl rfl rfl rfl rfl (by rw [hlo]; decide) ?_
      refine qS hl rfl rfl rfl rfl (by rw [hlo]; decide) ?_
      refine qQ hl rfl rfl rfl (if_pos hlo) (nK (rT hl rfl (by rfl) ?_))
      refine sg 2 rfl (qU hl rfl i272 z272 rfl (by simp [Program.built, Instr.fill, Tryz.underlying272, Value.cells]; rfl) ?_)
      refine qV hl rfl rfl (by first | assumption | (simp only [gs]; rfl) | (simp [gs]; try rfl)) p272 rfl rfl (by simp [Value.cells]) ?_
      refine nK (rR (kR (f_c hl rfl (.inl rfl) rfl  (T.get_set _ _ _ _ |>.trans (if_pos rfl)) ((p272.1 _ _).trans rfl) ?_)))
      refine ⟨hERR (e := 22) (.fail hf0 ?_) rfl, (((Keep.refl (Nat.le_refl c)).set (.inl (by omega))).set (.inl (by omega))).up (by omega)⟩
      simp only [De.step, List.drop_zero, if_true]; rw [if_neg h5, if_pos (by omega)]
    · have hlo_ := hlo
      try simp only [dz] at hlo_
      refine qG hl rfl rfl rfl hlo (qM hl rfl (qG hl rfl rfl rfl hlo (qB hl rfl rfl rfl (qQ hl rfl rfl rfl (if_neg (by rw [hlo]; decide)) ?_))))
      refine nK ?_
      refine rC hl rfl (fun hhi => ?_) (fun hhi => ?_)
      · try simp only [dz, dy] at hhi
        refine sg 2 rfl (qU hl rfl i272 z272 rfl (by simp [Program.built, Instr.fill, Tryz.underlying272, Value.cells]; rfl) ?_)
        refine qV hl rfl rfl (by first | assumption | (simp only [gs]; rfl) | (simp [gs]; try rfl)) p272 rfl rfl (by simp [Value.cells]) ?_
        refine nK (rR (kR (f_c hl rfl (.inl rfl) rfl  (T.get_set _ _ _ _ |>.trans (if_pos rfl)) ((p272.1 _ _).trans rfl) ?_)))
        refine ⟨hERR (e := 22) (.fail hf0 ?_) rfl, (((Keep.refl (Nat.le_refl c)).set (.inl (by omega))).set (.inl (by omega))).up (by omega)⟩
        simp only [De.step, List.drop_zero, if_true]; rw [if_neg h5, if_pos (by omega)]
      · try simp only [dz, dy] at hhi
        have hst0 : De.step ⟨size, 0, []⟩ (L.drop 0) = .ok (⟨size, num (L.take 5), []⟩, 5) := by simp only [De.step, List.drop_zero, if_true]; rw [if_neg h5, if_neg (by omega)]
        refine rK (kN (sg 1 rfl (qA hl rfl (nK (sg 1 rfl (qA hl rfl (nK (rS (rB ?_)))))))))
        refine rL (fun m env' s' => ∃ now lens a cp n, m = L.length + 1 - n ∧ n ≤ L.length ∧ 1 ≤ now ∧ now ≤ 20 ∧ lens.length ≤ size ∧ Hd 69 [(0, .string (zs L)), (1, nv size), (4, ptr c), (5, nv now), (6, .slice a lens.length cp), (7, nv n)] env' ∧ (∀ r, Runs De.step deFin L ⟨size, now, lens⟩ n r → DeltaR size L r) ∧ SlR 3 1 (lens.map nv) a lens.length cp s'.heap.get ∧ (∀ z ∈ own a, c + 1 ≤ z ∧ z < s'.ctr) ∧ s'.heap.get c = some ⟨[nilS, nv 0, nv 0], 272, 0⟩ ∧ c + 1 ≤ s'.ctr ∧ Keep [] h c s') (L.length + 1 - 5) ?_ ?_
        · exact ⟨num (L.take 5), [], none, 0, 5, by omega, by omega, by omega, by omega, Nat.zero_le _, Ho hl ⟨rfl, rfl, rfl, rfl, rfl, rfl, trivial⟩, fun r q => .more hf0 hst0 q, SlR.nil, by simp [own], (T.get_set _ _ _ _).trans (if_pos rfl), by dsimp only; omega, ((Keep.refl (Nat.le_refl c)).set (.inl (by omega))).up (by omega)⟩
        rintro m _ ⟨h2, c2⟩ ⟨now, lens, a, cp, n, rfl, hn, hw1, hw2, hls, ⟨env, hl, rfl⟩, hRuns, hS, hO, hb0, hc2, hK⟩
        dsimp only at hS hO hb0 hc2
        refine rS (sg 4 rfl (qM hl rfl (q_lenL hl rfl Tryz.underlying171 (qM hl rfl (qB hl rfl rfl rfl (nK ?_))))))
        refine rC hl rfl (fun hlt => ?_) (fun hlt => ?_)
        · try simp only [dz, dy] at hlt
          have hfin : deFin ⟨size, now, lens⟩ (L.drop n) = false := by simp [deFin, De.done]; omega
          refine rK (kN (rB (rS (sg 4 rfl (qM hl rfl (qM hl rfl (qK hl rfl Tryz.underlying9 ?_)))))))
          rw [hsz]
          refine qB hl rfl rfl rfl (nK ?_)
          refine rC hl rfl (fun hend => ?_) (fun hend => ?_)
          · try simp only [dz, dy] at hend
            refine sg 2 rfl (qU hl rfl i272 z272 rfl (by simp [Program.built, Instr.fill, Tryz.underlying272, Value.cells]; rfl) ?_)
            refine qV hl rfl rfl (by first | assumption | (simp only [gs]; rfl) | (simp [gs]; try rfl)) p272 rfl rfl (by simp [Value.cells]) ?_
            refine nK (rR (kR (k_bloR (kR (k_bloR (kR (f_c hl rfl (.inl rfl) rfl  (T.get_set _ _ _ _ |>.trans (if_pos rfl)) ((p272.1 _ _).trans rfl) ?_)))))))
            refine ⟨hERR (e := 3) (hRuns _ (.fail hfin ?_)) rfl, (hK.set (.inl (by omega))).up (by omega)⟩
            rw [List.drop_eq_nil_of_le (by omega)]; simp only [De.step]; rw [if_neg (by omega)]
          · try simp only [dz, dy] at hend
            obtain ⟨t, ht⟩ : ∃ t, L[n]? = some t := ⟨_, List.getElem?_eq_getElem (by omega)⟩
            have hd1 := drop_cons ht
            refine rK (kN (rS (sg 4 rfl (qM hl rfl (qM hl rfl (qJ hl rfl rfl Tryz.underlying9 (by omega) (txt_get (zl_get ht)) ?_))))))
            simp only [zb_nat]
            refine qB hl rfl rfl rfl (nK ?_)
            refine rC hl rfl (fun hbit => ?_) (fun hbit => ?_)
            · try simp only [dz, dy] at hbit
              have htt : t = false := by cases t with | false => rfl | true => (simp at hbit)
              subst htt
              have hst : De.step ⟨size, now, lens⟩ (L.drop n) = .ok (⟨size, now, lens ++ [now]⟩, 1) := by rw [hd1]; simp only [De.step]; rw [if_neg (by omega)]
              refine sg 5 rfl (qM hl rfl (qM hl rfl (q1_ hl rfl a171 rfl (qX hl rfl rfl a171 a171 (hS.move (fun z hz => by have := hO z hz; rw [T.get_set, if_neg (by omega)])) ((T.get_set _ _ _ _).trans (if_pos rfl)) rfl (by omega) (by omega) ?_))))
              intro a2 cp2 h4 hS2 hO2 hF2
              have hbc := (hF2 c (by omega) (fun m => by have := hO c m; omega)).trans ((T.get_set _ _ _ _).trans ((if_neg (by omega)).trans hb0))
              refine qA hl rfl (nK (sg 3 rfl (qM hl rfl (qP hl rfl rfl (by first | exact wI (by omega) | exact wU (by omega) | exact wB (by omega) | exact wL (by omega) | rfl) ?_))))
              refine qA hl rfl (nK (r_exit (kE (kB (kN ?_)))))
              refine ⟨L.length + 1 - (n + 1), by omega, now, lens ++ [now], a2, cp2, n + 1, rfl, by omega, hw1, hw2, by simp; omega, Ho hl ⟨rfl, rfl, rfl, rfl, by rw [List.length_append]; rfl, rfl, trivial⟩, fun r q => hRuns r (.more hfin hst q), by rw [List.map_append, List.length_append]; exact hS2, fun z hz => by have := hO2 z hz; dsimp only; omega, hbc, by dsimp only; omega, hK.app2 hF2 (fun z hz => .inl (by have := hO z hz; omega)) (by omega) (by omega) (by omega)⟩
            · try simp only [dz, dy] at hbit
              have htt : t = true := by cases t with | true => rfl | false => (simp at hbit)
              subst htt
              refine rK (kN (rS (sg 5 rfl (qM hl rfl (qP hl rfl rfl (by first | exact wI (by omega) | exact wU (by omega) | exact wB (by omega) | exact wL (by omega) | rfl) ?_)))))
              refine qM hl rfl (qK hl rfl Tryz.underlying9 ?_)
              rw [hsz]
              refine qB hl rfl rfl rfl (nK ?_)
              refine rC hl rfl (fun hend2 => ?_) (fun hend2 => ?_)
              · try simp only [dz, dy] at hend2
                refine sg 2 rfl (qU hl rfl i272 z272 rfl (by simp [Program.built, Instr.fill, Tryz.underlying272, Value.cells]; rfl) ?_)
                refine qV hl rfl rfl (by first | assumption | (simp only [gs]; rfl) | (simp [gs]; try rfl)) p272 rfl rfl (by simp [Value.cells]) ?_
                refine nK (rR (kR (k_bloR (kR (k_bloR (kR (f_c hl rfl (.inl rfl) rfl  (T.get_set _ _ _ _ |>.trans (if_pos rfl)) ((p272.1 _ _).trans rfl) ?_)))))))
                refine ⟨hERR (e := 3) (hRuns _ (.fail hfin ?_)) rfl, (hK.set (.inl (by omega))).up (by omega)⟩
                rw [hd1, List.drop_eq_nil_of_le (by omega)]; simp only [De.step]; rw [if_neg (by omega)]
              · try simp only [dz, dy] at hend2
                obtain ⟨t, ht2⟩ : ∃ t, L[n + 1]? = some t := ⟨_, List.getElem?_eq_getElem (by omega)⟩
                have hd2 := drop_cons ht2
                refine rK (kN (rS (sg 5 rfl (qM hl rfl (qM hl rfl (qP hl rfl rfl (by first | exact wI (by omega) | exact wU (by omega) | exact wB (by omega) | exact wL (by omega) | rfl) ?_))))))
                refine qJ hl rfl rfl Tryz.underlying9 (by omega) (by have := txt_get (zl_get ht2); rw [show ((n : Int) + 1).toNat = n + 1 by omega]; exact this) ?_
                simp only [zb_nat]
                refine qB hl rfl rfl rfl (nK ?_)
                refine rC hl rfl (fun hbit2 => ?_) (fun hbit2 => ?_)
                · try simp only [dz, dy] at hbit2
                  have htt : t = false := by cases t with | false => rfl | true => (simp at hbit2)
                  subst htt
                  refine rg 3 rfl (qM hl rfl (qP hl rfl rfl (by first | exact wI (by omega) | exact wU (by omega) | exact wB (by omega) | exact wL (by omega) | rfl) ?_))
                  refine qA hl rfl (nK (rS (sg 6 rfl (qM hl rfl (qB hl rfl rfl rfl (qM hl rfl ?_))))))
                  refine q_case hl (rfl : lk _ _ 59 = _) (fun hx => ?_) (fun hx => ?_)
                  · have hx_ := hx
                    try simp only [dz] at hx_
                    omega
                  · have hx_ := hx
                    try simp only [dz] at hx_
                    refine qG hl rfl rfl rfl hx (qM hl rfl (qG hl rfl rfl rfl hx (qB hl rfl rfl rfl (qQ hl rfl rfl rfl (if_neg (by rw [hx]; decide)) ?_))))
                    refine nK ?_
                    refine rC hl rfl (fun h21 => ?_) (fun h21 => ?_)
                    · try simp only [dz, dy] at h21
                      refine sg 2 rfl (qU hl rfl i272 z272 rfl (by simp [Program.built, Instr.fill, Tryz.underlying272, Value.cells]; rfl) ?_)
                      refine qV hl rfl rfl (by first | assumption | (simp only [gs]; rfl) | (simp [gs]; try rfl)) p272 rfl rfl (by simp [Value.cells]) ?_
                      refine nK (rR (kR (k_bloR (kR (k_bloR (kR (f_c hl rfl (.inl rfl) rfl  (T.get_set _ _ _ _ |>.trans (if_pos rfl)) ((p272.1 _ _).trans rfl) ?_)))))))
                      refine ⟨hERR (e := 22) (hRuns _ (.fail hfin ?_)) rfl, (hK.set (.inl (by omega))).up (by omega)⟩
                      rw [hd1, hd2]; simp only [De.step]; rw [if_neg (by omega)]; rw [if_pos (by omega)]
                    · try simp only [dz, dy] at h21
                      have hst : De.step ⟨size, now, lens⟩ (L.drop n) = .ok (⟨size, now + 1, lens⟩, 2) := by rw [hd1, hd2]; simp only [De.step]; rw [if_neg (by omega)]; rw [if_neg (by omega)]
                      refine rK (kN (rg 3 rfl (qM hl rfl (qP hl rfl rfl (by first | exact wI (by omega) | exact wU (by omega) | exact wB (by omega) | exact wL (by omega) | rfl) ?_))))
                      refine qA hl rfl (rN (kO (kN ?_)))
                      exact ⟨L.length + 1 - (n + 2), by omega, now + 1, lens, a, cp, n + 2, rfl, by omega, by omega, by omega, hls, Ho hl ⟨rfl, rfl, rfl, rfl, rfl, rfl, trivial⟩, fun r q => hRuns r (.more hfin hst q), hS, fun z hz => by have := hO z hz; dsimp only; omega, hb0, by dsimp only; omega, hK.up (by omega)⟩
                · try simp only [dz, dy] at hbit2
                  have htt : t = true := by cases t with | true => rfl | false => (simp at hbit2)
                  subst htt
                  refine rg 3 rfl (qM hl rfl (q_sub hl rfl rfl (by first | exact wI (by omega) | exact wU (by omega) | exact wB (by omega) | exact wL (by omega) | rfl) ?_))
                  refine qA hl rfl (nK (rS (sg 6 rfl (qM hl rfl (qB hl rfl rfl rfl (qM hl rfl ?_))))))
                  refine q_case hl (rfl : lk _ _ 59 = _) (fun hx => ?_) (fun hx => ?_)
                  · have hx_ := hx
                    try simp only [dz] at hx_
                    refine qS hl rfl rfl rfl rfl (by rw [hx]; decide) ?_
                    refine qS hl rfl rfl rfl rfl (by rw [hx]; decide) ?_
                    refine qQ hl rfl rfl rfl (if_pos hx) (nK (rT hl rfl (by rfl) ?_))
                    refine sg 2 rfl (qU hl rfl i272 z272 rfl (by simp [Program.built, Instr.fill, Tryz.underlying272, Value.cells]; rfl) ?_)
                    refine qV hl rfl rfl (by first | assumption | (simp only [gs]; rfl) | (simp [gs]; try rfl)) p272 rfl rfl (by simp [Value.cells]) ?_
                    refine nK (rR (kR (k_bloR (kR (k_bloR (kR (f_c hl rfl (.inl rfl) rfl  (T.get_set _ _ _ _ |>.trans (if_pos rfl)) ((p272.1 _ _).trans rfl) ?_)))))))
                    refine ⟨hERR (e := 22) (hRuns _ (.fail hfin ?_)) rfl, (hK.set (.inl (by omega))).up (by omega)⟩
                    rw [hd1, hd2]; simp only [De.step]; rw [if_neg (by omega)]; rw [if_pos (by omega)]
                  · have hx_ := hx
                    try simp only [dz] at hx_
                    refine qG hl rfl rfl rfl hx (qM hl rfl (qG hl rfl rfl rfl hx (qB hl rfl rfl rfl (qQ hl rfl rfl rfl (if_neg (by rw [hx]; decide)) ?_))))
                    refine nK (rF hl rfl (by first | rfl | (simp only [dz]; omega) | (simp; done) | (simp; omega)) ?_)
                    refine rK (kN (rg 3 rfl ?_))
                    have hst : De.step ⟨size, now, lens⟩ (L.drop n) = .ok (⟨size, now - 1, lens⟩, 2) := by rw [hd1, hd2]; simp only [De.step]; rw [if_neg (by omega)]; rw [if_neg (by omega)]
                    refine qM hl rfl (qP hl rfl rfl (by first | exact wI (by omega) | exact wU (by omega) | exact wB (by omega) | exact wL (by omega) | rfl) ?_)
                    refine qA hl rfl (rN (kO (kN ?_)))
                    refine ⟨L.length + 1 - (n + 2), by omega, now - 1, lens, a, cp, n + 2, rfl, by omega, by omega, by omega, hls, Ho hl ⟨rfl, rfl, rfl, ?_, rfl, rfl, trivial⟩, fun r q => hRuns r (.more hfin hst q), hS, fun z hz => by have := hO z hz; dsimp only; omega, hb0, by dsimp only; omega, hK.up (by omega)⟩
                    have e1 : (now : Int) - 1 = ((now - 1 : Nat) : Int) := by omega
                    exact congrArg (fun z => some (Value.int .i64 z)) e1
        · try simp only [dz, dy] at hlt
          have hle : lens.length = size := by omega
          refine r_exit (kE (kE (kB (kN (sg 4 rfl (qM hl rfl (qM hl rfl (qU hl rfl i272 z272 rfl (by simp [Program.built, Instr.fill, Tryz.underlying272, Value.cells]; rfl) ?_))))))))
          refine qV hl rfl rfl (by first | assumption | (simp only [gs]; rfl) | (simp [gs]; try rfl)) p272 rfl rfl (by simp [Value.cells]) ?_
          refine nK (rR (f_c hl rfl (.inl rfl) rfl  (T.get_set _ _ _ _ |>.trans (if_pos rfl)) ((p272.1 _ _).trans rfl) ?_))
          refine ⟨⟨.ok (⟨size, now, lens⟩, n), hRuns _ (.stop (by simp [deFin, De.done, hle])), a, cp, rfl, hS.move (fun z hz => by have := hO z hz; dsimp only; rw [T.get_set, if_neg (by omega)]), fun z hz => by have := hO z hz; dsimp only; omega⟩, (hK.set (.inl (by omega))).up (by omega)⟩
end
section
variable {ov : OvT} (H : OvH ov)
include H
theorem rMay_cr {h : Heap} {c n cp : Nat} {l : List Nat} {a : Option Addr} (hS : SlR 3 1 (l.map nv) a n cp h.get) (hn : n ≤ 1000000) (hx : ∀ x ∈ l, 1 ≤ x ∧ x ≤ 20) :
    CR Tryz.prog ov 221 [.slice a n cp, nv 1, nv 20] ⟨h, c⟩ (fun v st => v = .bool true ∧ Same h c st) := by
  have hln : l.length = n := by have := hS.len; simpa using this
  refine e_3 Tryz.func221 rfl (H _ (by decide)) Tryz.ntmps221 (by decide) ?_
  intro env hl
  refine sg 1 rfl (qA hl rfl (nK (rS (sg 3 rfl (qM hl rfl (q_lenL hl rfl Tryz.underlying171 (qM hl rfl (nK (rB ?_)))))))))
  refine rL (fun m env' s' => ∃ j, m = n - j ∧ j ≤ n ∧ Hd 24 [(1, nv 1), (2, nv 20), (9, .slice a n cp), (10, nv n), (11, nv j)] env' ∧ s'.heap = h ∧ c ≤ s'.ctr) n ?_ ?_
  · exact ⟨0, rfl, Nat.zero_le _, Ho hl ⟨rfl, rfl, rfl, rfl, rfl, trivial⟩, rfl, by dsimp only; omega⟩
  rintro m _ ⟨h2, c2⟩ ⟨j, rfl, hj, ⟨env, hl, rfl⟩, he, hc2⟩
  dsimp only at he hc2
  subst he
  refine sg 1 rfl (qB hl rfl rfl rfl (nK (rS ?_)))
  refine rC hl rfl (fun hjn => ?_) (fun hjn => ?_)
  · try simp only [dz, dy] at hjn
    obtain ⟨x, hx1⟩ : ∃ x, l[j]? = some x := ⟨_, List.getElem?_eq_getElem (by omega)⟩
    have hx2 := hx x (List.mem_of_getElem? hx1)
    obtain ⟨mb, rfl, rfl, hmb⟩ := hS.pos (by omega)
    refine rK (kN (rS (rB (sg 3 rfl (qI hl rfl rfl e171 ⟨by omega, by omega⟩ ?_)))))
    refine qL hl rfl (by assumption) ((p3.1 _ _).trans (by simp [hx1])) (v := nv x) ?_
    refine qA hl rfl (nK (sg 8 rfl (qM hl rfl (qM hl rfl (qB hl rfl rfl rfl (qM hl rfl ?_))))))
    refine q_case hl (rfl : lk _ _ 18 = _) (fun hlo => ?_) (fun hlo => ?_)
    · have hlo_ := hlo
      try simp only [dz] at hlo_
      omega
    · have hlo_ := hlo
      try simp only [dz] at hlo_
      refine qG hl rfl rfl rfl hlo (qM hl rfl (qG hl rfl rfl rfl hlo (qM hl rfl (qG hl rfl rfl rfl hlo (qB hl rfl rfl rfl (qQ hl rfl rfl rfl (if_neg (by rw [hlo]; decide)) ?_))))))
      refine nK (rF hl rfl (by first | rfl | (simp only [dz]; omega) | (simp; done) | (simp; omega)) ?_)
      refine rK (kO (kN (rg 2 rfl (qP hl rfl rfl (by first | exact wI (by omega) | exact wU (by omega) | exact wB (by omega) | exact wL (by omega) | rfl) ?_))))
      refine qM hl rfl (nK ?_)
      exact ⟨n - (j + 1), by omega, j + 1, rfl, by omega, Ho hl ⟨rfl, rfl, rfl, rfl, rfl, trivial⟩, rfl, by dsimp only; omega⟩
  · try simp only [dz, dy] at hjn
    refine r_exit (kE (kE (kB (kN (sg 1 rfl (qA hl rfl (nK (rR (f_1 hl rfl (.inl rfl) rfl ?_)))))))))
    exact ⟨rfl, rfl, by dsimp only; omega⟩
theorem rShare_cr {h : Heap} {c n cp : Nat} {l : List Nat} {a : Option Addr} (hS : SlR 3 1 (l.map nv) a n cp h.get) (hn : n ≤ 258) (hx : ∀ x ∈ l, x ≤ 20) :
    CR Tryz.prog ov 222 [.slice a n cp] ⟨h, c⟩ (fun v st => v = nv (share l) ∧ Same h c st) := by
  have hln : l.length = n := by have := hS.len; simpa using this
  refine e_1 Tryz.func222 rfl (H _ (by decide)) Tryz.ntmps222 (by decide) ?_
  intro env hl
  refine sg 1 rfl (qA hl rfl (nK (sg 1 rfl (qA hl rfl (nK (rS (sg 3 rfl (qM hl rfl (q_lenL hl rfl Tryz.underlying171 (qM hl rfl (nK (rB ?_))))))))))))
  refine rL (fun m env' s' => ∃ j, m = n - j ∧ j ≤ n ∧ Hd 25 [(7, .slice a n cp), (8, nv n), (9, nv j), (3, nv (share (l.take j)))] env' ∧ s'.heap = h ∧ c ≤ s'.ctr) n ?_ ?_
  · exact ⟨0, rfl, Nat.zero_le _, Ho hl ⟨rfl, rfl, rfl, rfl, trivial⟩, rfl, by dsimp only; omega⟩
  rintro m _ ⟨h2, c2⟩ ⟨j, rfl, hj, ⟨env, hl, rfl⟩, he, hc2⟩
  dsimp only at he hc2
  subst he
  refine sg 1 rfl (qB hl rfl rfl rfl (nK (rS ?_)))
  refine rC hl rfl (fun hjn => ?_) (fun hjn => ?_)
  · try simp only [dz, dy] at hjn
    obtain ⟨x, hx1⟩ : ∃ x, l[j]? = some x := ⟨_, List.getElem?_eq_getElem (by omega)⟩
    have hx2 := hx x (List.mem_of_getElem? hx1)
    obtain ⟨mb, rfl, rfl, hmb⟩ := hS.pos (by omega)
    have htk : share (l.take (j + 1)) = share (l.take j) + 2 ^ (20 - x) := by rw [List.take_add_one, hx1]; exact share_snoc _ _
    have hle := share_le (l.take j); rw [List.length_take] at hle
    have hle2 : share (l.take j) ≤ 258 * 2 ^ 20 := Nat.le_trans hle (Nat.mul_le_mul_right _ (by omega))
    refine rK (kN (rS (rB (sg 3 rfl (qI hl rfl rfl e171 ⟨by omega, by omega⟩ ?_)))))
    refine qL hl rfl (by assumption) ((p3.1 _ _).trans (by simp [hx1])) (v := nv x) ?_
    refine qA hl rfl (nK (sg 1 rfl (qA hl rfl (nK (rS (sg 3 rfl (qM hl rfl (q_sub hl rfl rfl (m := ((20 - x : Nat) : Int)) (by rw [wrapI (by omega) (by omega)]; omega) ?_))))))))
    refine qM hl rfl (nK (rB ?_))
    refine rL (fun m env' s' => ∃ k, m = 20 - x - k ∧ k ≤ 20 - x ∧ Hd 25 [(7, .slice (some ⟨mb, 0, none⟩) n 1), (8, nv n), (9, nv j), (3, nv (share (l.take j))), (6, nv (2 ^ k)), (14, nv (20 - x)), (15, nv k)] env' ∧ s'.heap = h2 ∧ c2 ≤ s'.ctr) (20 - x) ?_ ?_
    · exact ⟨0, rfl, Nat.zero_le _, Ho hl ⟨rfl, rfl, rfl, rfl, rfl, rfl, rfl, trivial⟩, rfl, by dsimp only; omega⟩
    rintro m _ ⟨h3, c3⟩ ⟨k, rfl, hk, ⟨env, hl, rfl⟩, he, hc3⟩
    dsimp only at he hc3
    subst he
    obtain ⟨pw, hpw⟩ : ∃ pw, pw = 2 ^ k := ⟨_, rfl⟩
    have hp2 : pw ≤ 2 ^ 20 := by rw [hpw]; exact Nat.pow_le_pow_right (by omega) (by omega)
    refine sg 1 rfl ?_
    skip
    refine qB hl rfl rfl rfl (nK (rS ?_))
    refine rC hl rfl (fun hkx => ?_) (fun hkx => ?_)
    · try simp only [dz, dy] at hkx
      rw [← hpw]
      have hp3 : 2 ^ (k + 1) = 2 * pw := by rw [hpw, Nat.pow_succ, Nat.mul_comm]
      refine rK (kN (rS (rB (rg 3 rfl (qM hl rfl (q_mul hl rfl rfl (m := ((2 * pw : Nat) : Int)) (by rw [wrapI (by omega) (by omega)]; omega) ?_))))))
      refine qA hl rfl (rN (kO (kN (rg 2 rfl (qP hl rfl rfl (by first | exact wI (by omega) | exact wU (by omega) | exact wB (by omega) | exact wL (by omega) | rfl) ?_)))))
      refine qM hl rfl (nK ?_)
      exact ⟨20 - x - (k + 1), by omega, k + 1, rfl, by omega, Ho hl ⟨rfl, rfl, rfl, rfl, by rw [hp3]; rfl, rfl, rfl, trivial⟩, rfl, by dsimp only; omega⟩
    · try simp only [dz, dy] at hkx
      have ek : k = 20 - x := by omega
      subst ek
      rw [← hpw]
      rw [← hpw] at htk
      refine r_exit (kE (kE (kB (kN (rg 4 rfl (qM hl rfl (qM hl rfl (qP hl rfl rfl (m := ((share (l.take j) + pw : Nat) : Int)) (by rw [wrapI (by omega) (by omega)]; omega) ?_))))))))
      refine qA hl rfl (rN (kO (kN (rg 2 rfl (qP hl rfl rfl (by first | exact wI (by omega) | exact wU (by omega) | exact wB (by omega) | exact wL (by omega) | rfl) ?_)))))
      refine qM hl rfl (nK ?_)
      exact ⟨n - (j + 1), by omega, j + 1, rfl, by omega, Ho hl ⟨rfl, rfl, rfl, by rw [htk]; rfl, trivial⟩, rfl, by dsimp only; omega⟩
  · try simp only [dz, dy] at hjn
    refine r_exit (kE (kE (kB (kN (sg 2 rfl (qM hl rfl (qA hl rfl (nK (rR (f_1 hl rfl (.inl rfl) rfl ?_))))))))))
    have ej : j = n := by omega
    subst ej
    rw [List.take_of_length_le (by omega)]
    exact ⟨rfl, rfl, by dsimp only; omega⟩
theorem rWhole_cr {h : Heap} {c n cp : Nat} {l : List Nat} {a : Option Addr} (hS : SlR 3 1 (l.map nv) a n cp h.get) (hn : n ≤ 258) (hx : ∀ x ∈ l, 1 ≤ x ∧ x ≤ 20) :
    CR Tryz.prog ov 201 [.slice a n cp] ⟨h, c⟩ (fun v st => v = .bool (whole l) ∧ Same h c st) := by
  refine e_1 Tryz.func201 rfl (H _ (by decide)) Tryz.ntmps201 (by decide) ?_
  intro env hl
  refine sg 1 rfl (qA hl rfl (nK (sg 8 rfl (qM hl rfl (qC hl rfl (CR.mono (rMay_cr H hS (by omega) hx) ?_))))))
  rintro v ⟨hh1, cc1⟩ ⟨rfl, rfl, hk⟩
  try dsimp only at hk
  refine qM hl rfl (qG hl rfl rfl rfl rfl (qM hl rfl (qG hl rfl rfl rfl rfl (qC hl rfl (CR.mono (rShare_cr H hS hn (fun x q => (hx x q).2)) ?_)))))
  rintro v ⟨hh2, cc2⟩ ⟨rfl, rfl, hk⟩
  try dsimp only at hk
  refine qG hl rfl rfl rfl rfl (qB hl rfl rfl rfl (qQ hl rfl rfl rfl (if_pos rfl) (qA hl rfl (nK (rR (f_1 hl rfl (.inl rfl) rfl ?_))))))
  refine ⟨?_, rfl, by dsimp only at *; omega⟩
  congr 1; rw [Bool.eq_iff_iff]; simp [whole]
  omega
end
theorem zl_inj : ∀ {a b : List Bool}, (zl a).map UInt8.ofNat = (zl b).map UInt8.ofNat → a = b
  | [], [], _ => rfl
  | [], y :: b, h => by simp [zl] at h
  | x :: a, [], h => by simp [zl] at h
  | x :: a, y :: b, h => by
    simp only [zl, List.map_cons, List.cons.injEq] at h
    have h1 : x = y := by
      have := h.1; cases x <;> cases y <;> first | rfl | (exact absurd this (by decide))
    rw [h1, zl_inj (a := a) (b := b) h.2]
theorem zs_eq (a b : List Bool) : ((zs a).toList == (zs b).toList) = (a == b) := by
  rw [Bool.eq_iff_iff]
  simp only [beq_iff_eq, Go.ByteArray.toList_eq]
  constructor
  · intro h; exact zl_inj (by simpa [txt] using h)
  · rintro rfl; rfl
section
variable {ov : OvT} (H : OvH ov)
include H
theorem rBegins_cr {h : Heap} {c : Nat} {A C : List Bool} :
    CR Tryz.prog ov 202 [.string (zs A), .string (zs C)] ⟨h, c⟩ (fun v st => v = .bool (decide (C.length ≤ A.length) && (A.take C.length == C)) ∧ Same h c st) := by
  have hA : (zs A).size = A.length := by rw [txt_size, zl_len]
  have hC : (zs C).size = C.length := by rw [txt_size, zl_len]
  have hz : ((zl A).drop 0).take (C.length - 0) = zl (A.take C.length) := by simp [zl]
  refine e_2 Tryz.func202 rfl (H _ (by decide)) Tryz.ntmps202 (by decide) ?_
  intro env hl
  refine sg 1 rfl (qA hl rfl (nK (sg 14 rfl (qM hl rfl (qK hl rfl Tryz.underlying9 (qM hl rfl (qK hl rfl Tryz.underlying9 ?_)))))))
  rw [hA, hC]
  refine qB hl rfl rfl rfl (qM hl rfl ?_)
  refine q_case hl (rfl : lk _ _ 10 = _) (fun hg => ?_) (fun hg => ?_)
  · have hg_ := hg
    try simp only [dz] at hg_
    refine qG hl rfl rfl rfl hg (qM hl rfl (qG hl rfl rfl rfl hg (qM hl rfl (qG hl rfl rfl rfl hg (qK hl rfl Tryz.underlying9 (qG hl rfl rfl rfl hg ?_))))))
    rw [hC]
    refine qT (s := zl A) 0 C.length hl rfl Tryz.underlying9 rfl rfl ⟨by omega, by rw [zl_len]; omega⟩ ?_
    refine qG hl rfl rfl rfl hg ?_
    simp only [hz]
    refine qM hl rfl (qG hl rfl rfl rfl hg (qB hl rfl rfl rfl (qQ hl rfl rfl rfl (if_pos hg) (qA hl rfl (nK (rR (f_1 hl rfl (.inl rfl) rfl ?_)))))))
    refine ⟨?_, rfl, by simp <;> omega⟩
    have q : C.length ≤ A.length := by omega
    simp only [q, decide_true, Bool.true_and]; rw [← zs_eq]
  · have hg_ := hg
    try simp only [dz] at hg_
    refine qS hl rfl rfl rfl rfl (by rw [hg]; decide) ?_
    refine qS hl rfl rfl rfl rfl (by rw [hg]; decide) ?_
    refine qS hl rfl rfl rfl rfl (by rw [hg]; decide) ?_
    refine qS hl rfl rfl rfl rfl (by rw [hg]; decide) ?_
    refine qS hl rfl rfl rfl rfl (by rw [hg]; decide) ?_
    refine qS hl rfl rfl rfl rfl (by rw [hg]; decide) ?_
    refine qQ hl rfl rfl rfl (if_neg (by rw [hg]; decide)) ?_
    refine qA hl rfl (nK (rR (f_1 hl rfl (.inl rfl) rfl ?_)))
    refine ⟨?_, rfl, by simp <;> omega⟩
    have q : ¬ C.length ≤ A.length := by omega
    simp [q]
end
theorem idx_len (b : List Bool) : ∀ k, (idx b k).length = b.count true := by
  induction b with
  | nil => intro k; rfl
  | cons t b ih => intro k; cases t <;> simp [idx, ih]
theorem those_len (l : List Nat) (n : Nat) : (those l n).length = l.count n := by
  rw [those, idx_len]
  induction l with
  | nil => rfl
  | cons x l ih => simp only [List.map_cons, List.count_cons, ih]; by_cases q : x = n <;> simp [q]
theorem firstC_cons (x : Nat) (l : List Nat) : ∀ n, firstC (x :: l) n = firstC l n + if x < n then 2 ^ (n - x) else 0
  | 0 => by simp [firstC]
  | n + 1 => by
    rw [firstC, firstC_cons x l n, firstC, those_len, those_len, List.count_cons]
    by_cases h1 : x < n
    · rw [if_pos h1, if_pos (show x < n + 1 by omega), show n + 1 - x = (n - x) + 1 by omega, Nat.pow_succ]
      have : (x == n) = false := by simp; omega
      simp [this]; omega
    · rw [if_neg h1]
      by_cases h2 : x = n
      · subst h2; simp; omega
      · rw [if_neg (show ¬ x < n + 1 by omega)]; have : (x == n) = false := by simpa using h2
        simp [this]
theorem firstC_nil : ∀ n, firstC [] n = 0
  | 0 => rfl
  | n + 1 => by rw [firstC, firstC_nil n]; rfl
theorem firstC_21 {l : List Nat} (h : ∀ x ∈ l, x ≤ 20) : firstC l 21 = 2 * share l := by
  induction l with
  | nil => rw [firstC_nil]; rfl
  | cons x l ih =>
    have hx := h x (by simp)
    rw [firstC_cons, ih (fun y hy => h y (by simp [hy])), if_pos (by omega), show 21 - x = (20 - x) + 1 by omega, Nat.pow_succ]
    simp only [share, List.map_cons, List.sum_cons]; omega
theorem firstC_step (l : List Nat) {m : Nat} : ∀ {n : Nat}, m ≤ n → (firstC l m + (those l m).length) * 2 ^ (n + 1 - m) ≤ firstC l (n + 1)
  | 0, h => by have : m = 0 := by omega
               subst this; simp [firstC]; omega
  | n + 1, h => by
    have e2 : firstC l (n + 1 + 1) = 2 * (firstC l (n + 1) + (those l (n + 1)).length) := rfl
    by_cases e : m = n + 1
    · subst e; rw [e2, show n + 1 + 1 - (n + 1) = 1 by omega]; omega
    · have := firstC_step l (m := m) (n := n) (by omega)
      rw [show n + 1 + 1 - m = (n + 1 - m) + 1 by omega, Nat.pow_succ, ← Nat.mul_assoc, e2]; omega
theorem code_le {l : List Nat} (h : ∀ x ∈ l, 1 ≤ x ∧ x ≤ 20) (hw : whole l = true) {n : Nat} (hn : n ≤ 20) : firstC l n + (those l n).length ≤ 2 ^ n := by
  have h1 := firstC_step l hn
  have h2 : share l = 2 ^ 20 := by simpa [whole] using hw
  rw [firstC_21 (fun x q => (h x q).2), h2] at h1
  have h3 : 2 * 2 ^ 20 = 2 ^ n * 2 ^ (20 + 1 - n) := by rw [← Nat.pow_add, show n + (20 + 1 - n) = 21 by omega]
  rw [h3] at h1
  exact Nat.le_of_mul_le_mul_right h1 (Nat.two_pow_pos _)
theorem code_full {l : List Nat} (h : ∀ x ∈ l, 1 ≤ x ∧ x ≤ 20) (hw : whole l = true) : firstC l 20 + (those l 20).length = 2 ^ 20 := by
  have h1 := firstC_21 (fun x q => (h x q).2)
  have h2 : share l = 2 ^ 20 := by simpa [whole] using hw
  rw [firstC] at h1; omega
theorem getC_law {l : List Nat} (hw : firstC l 20 + (those l 20).length = 2 ^ 20) : ∀ (b P : List Bool), (∀ m, m ≤ P.length → firstC l m + (those l m).length ≤ num (P.take m)) →
    match getC l (P.length + 1) (num P) b with
    | .ok (s, m) => m ≤ P.length + b.length ∧ ∃ k, (those l m)[k]? = some s ∧ num ((P ++ b).take m) = firstC l m + k ∧ ∀ m', m' < m → firstC l m' + (those l m').length ≤ num ((P ++ b).take m')
    | .error e => e = 3 ∧ ∀ m, m ≤ P.length + b.length → firstC l m + (those l m).length ≤ num ((P ++ b).take m) := by
  intro b
  have hlt : ∀ P : List Bool, (∀ m, m ≤ P.length → firstC l m + (those l m).length ≤ num (P.take m)) → P.length < 20 := by
    intro P h
    rcases Nat.lt_or_ge P.length 20 with q | q
    · exact q
    · have h1 := h 20 q; have h2 := num_lt (P.take 20); rw [List.length_take, Nat.min_eq_left q] at h2; omega
  induction b with
  | nil =>
    intro P h
    have := hlt P h
    simp only [getC]; rw [if_neg (by omega)]
    exact ⟨rfl, fun m hm => by simpa using h m (by simpa using hm)⟩
  | cons t b ih =>
    intro P h
    have hl := hlt P h
    have hv : 2 * num P + t.toNat = num (P ++ [t]) := (num_snoc P t).symm
    simp only [getC]; rw [if_neg (by omega), hv]
    have hf : firstC l (P.length + 1) ≤ num (P ++ [t]) := by
      have := h P.length (Nat.le_refl _); rw [List.take_length] at this
      rw [firstC, ← hv]; omega
    have htk : ∀ m', m' ≤ P.length → (P ++ t :: b).take m' = P.take m' := fun m' hm => List.take_append_of_le_length hm
    have htn : (P ++ t :: b).take (P.length + 1) = P ++ [t] := by
      have e : P ++ t :: b = (P ++ [t]) ++ b := by simp
      rw [e, List.take_append_of_le_length (by simp), List.take_of_length_le (by simp)]
    by_cases hc : num (P ++ [t]) < firstC l (P.length + 1) + (those l (P.length + 1)).length
    · rw [if_pos hc]
      have hk : num (P ++ [t]) - firstC l (P.length + 1) < (those l (P.length + 1)).length := by omega
      refine ⟨by simp, num (P ++ [t]) - firstC l (P.length + 1), ?_, by rw [htn]; omega, fun m' hm => by rw [htk m' (by omega)]; exact h m' (by omega)⟩
      rw [List.getD_eq_getElem?_getD, List.getElem?_eq_getElem hk]; rfl
    · rw [if_neg hc]
      have := ih (P ++ [t]) (fun m hm => by
        rw [List.length_append] at hm; simp only [List.length_cons, List.length_nil] at hm
        by_cases e : m = P.length + 1
        · subst e; rw [List.take_of_length_le (by simp)]; omega
        · rw [List.take_append_of_le_length (by omega)]; exact h m (by omega))
      simp only [List.length_append, List.length_cons, List.length_nil, List.append_assoc, List.cons_append, List.nil_append] at this
      rw [show P.length + (t :: b).length = P.length + (0 + 1) + b.length by simp; omega]
      exact this
def rank (l : List Nat) (i n : Nat) : Nat := (idx ((l.map (· == n)).take i) 0).length
def codeN (l : List Nat) (i : Nat) : Nat := firstC l (l.getD i 0) + rank l i (l.getD i 0)
def codeB (l : List Nat) (i : Nat) : List Bool := bitsN (l.getD i 0) (codeN l i)
def codesL (l : List Nat) : List (List Bool) := (List.range l.length).map (codeB l)
def begB (A C : List Bool) : Bool := decide (C.length ≤ A.length) && (A.take C.length == C)
theorem codesL_get {l : List Nat} {i : Nat} (h : i < l.length) : (codesL l)[i]? = some (codeB l i) := by simp [codesL, h]
theorem codeB_of {l : List Nat} {i n : Nat} (h : l[i]? = some n) : codeB l i = bitsN n (firstC l n + rank l i n) := by
  have e : l.getD i 0 = n := by rw [List.getD_eq_getElem?_getD, h]; rfl
  simp only [codeB, codeN, e]
theorem codeB_len {l : List Nat} {i n : Nat} (h : l[i]? = some n) : (codeB l i).length = n := by rw [codeB_of h, bitsN_len]
theorem Asc.inj {l : List Nat} (h : Asc l) : ∀ {a b x : Nat}, l[a]? = some x → l[b]? = some x → a = b := by
  induction l with
  | nil => intro a b x h1; simp at h1
  | cons y l ih =>
    intro a b x h1 h2
    cases a with
    | zero => cases b with
      | zero => rfl
      | succ b => simp at h1 h2; subst h1; have := h.1 y (List.mem_of_getElem? h2); omega
    | succ a => cases b with
      | zero => simp at h1 h2; subst h2; have := h.1 y (List.mem_of_getElem? h1); omega
      | succ b => simp at h1 h2; rw [ih h.2 h1 h2]
theorem those_rank {l : List Nat} {i n : Nat} (h : l[i]? = some n) : (those l n)[rank l i n]? = some i := by
  have hi : i < l.length := by rcases Nat.lt_or_ge i l.length with q | q; exact q; rw [List.getElem?_eq_none q] at h; cases h
  have e : those l n = idx ((l.map (· == n)).take i) 0 ++ idx ((l.map (· == n)).drop i) (0 + ((l.map (· == n)).take i).length) := by rw [← idx_append, List.take_append_drop]; rfl
  have e2 : ((l.map (· == n)).take i).length = i := by simp; omega
  have e3 : (l.map (· == n)).drop i = true :: (l.map (· == n)).drop (i + 1) := drop_cons (by rw [List.getElem?_map, h]; simp)
  rw [e, e2, e3, rank, List.getElem?_append_right (Nat.le_refl _), Nat.sub_self]; simp [idx]
theorem those_inj {l : List Nat} {n k s : Nat} (h : (those l n)[k]? = some s) : l[s]? = some n ∧ k = rank l s n := by
  have h1 := (idx_mem _ _ _).mp (List.mem_of_getElem? h)
  have h2 : l[s]? = some n := by
    have := h1.2; rw [Nat.sub_zero, List.getElem?_map] at this
    cases hs : l[s]? with
    | none => rw [hs] at this; cases this
    | some x => rw [hs] at this; simp at this; rw [this]
  exact ⟨h2, (idx_asc _ _).inj h (those_rank h2)⟩
theorem num_bitsN : ∀ (n v : Nat), num (bitsN n v) = v % 2 ^ n
  | 0, v => by simp [bitsN, num, Nat.mod_one]
  | n + 1, v => by
    rw [bitsN, num_snoc, num_bitsN n, Nat.pow_succ, Nat.mul_comm (2 ^ n) 2, Nat.mod_mul]
    rcases Nat.mod_two_eq_zero_or_one v with q | q <;> rw [q] <;> simp <;> omega
theorem bitsN_num (L : List Bool) : bitsN L.length (num L) = L := by
  have : ∀ n (L : List Bool), L.length = n → bitsN n (num L) = L := by
    intro n; induction n with
    | zero => intro L h; rw [List.length_eq_zero_iff.mp h]; rfl
    | succ n ih =>
      intro L h
      have hne : L ≠ [] := by rintro rfl; cases h
      obtain ⟨L', t, rfl⟩ : ∃ L' t, L = L' ++ [t] := ⟨_, _, (List.dropLast_concat_getLast hne).symm⟩
      rw [num_snoc, bitsN, show (2 * num L' + t.toNat) / 2 = num L' by cases t <;> simp <;> omega, ih L' (by simpa using h)]
      cases t <;> simp <;> omega
  exact this _ L rfl
theorem get_law {l : List Nat} (h : ∀ x ∈ l, 1 ≤ x ∧ x ≤ 20) (hw : whole l = true) (A : List Bool) :
    match getC l 1 0 A with
    | .ok (s, m) => (codesL l).findIdx? (begB A) = some s ∧ l[s]? = some m
    | .error e => e = 3 ∧ (codesL l).findIdx? (begB A) = none := by
  have hg := getC_law (code_full h hw) A [] (fun m hm => by
    have : m = 0 := by simpa using hm
    subst this; simp [firstC, those0 (fun x q => (h x q).1)])
  have hbeg : ∀ i n, l[i]? = some n → begB A (codeB l i) = true → n ≤ A.length ∧ num (A.take n) = firstC l n + rank l i n ∧ rank l i n < (those l n).length ∧ (those l n)[rank l i n]? = some i := by
    intro i n hi hb
    have hr := those_rank hi
    have hrl : rank l i n < (those l n).length := by rcases Nat.lt_or_ge (rank l i n) (those l n).length with q | q; exact q; rw [List.getElem?_eq_none q] at hr; cases hr
    have hn := h n (List.mem_of_getElem? hi)
    have hc := code_le h hw hn.2
    simp only [begB, codeB_len hi, Bool.and_eq_true, decide_eq_true_eq, beq_iff_eq] at hb
    refine ⟨hb.1, ?_, hrl, hr⟩
    rw [hb.2, codeB_of hi, num_bitsN, Nat.mod_eq_of_lt (by omega)]
  simp only [List.length_nil, Nat.zero_add, List.nil_append] at hg
  have e0 : num ([] : List Bool) = 0 := rfl
  rw [e0] at hg
  cases hq : getC l 1 0 A with
  | ok p =>
    obtain ⟨s, m⟩ := p
    rw [hq] at hg
    obtain ⟨hm, k, hk, hnum, hmin⟩ := hg
    obtain ⟨hs, hk2⟩ := those_inj hk
    have hsl : s < l.length := by rcases Nat.lt_or_ge s l.length with q | q; exact q; rw [List.getElem?_eq_none q] at hs; cases hs
    refine ⟨?_, hs⟩
    rw [List.findIdx?_eq_some_iff_getElem]
    refine ⟨by simpa [codesL] using hsl, ?_, ?_⟩
    · have e : (codesL l)[s]'(by simpa [codesL] using hsl) = codeB l s := by simp [codesL]
      rw [e]
      simp only [begB, codeB_len hs, Bool.and_eq_true, decide_eq_true_eq, beq_iff_eq]
      refine ⟨hm, ?_⟩
      rw [codeB_of hs, ← hk2, ← hnum]
      have := bitsN_num (A.take m); rw [List.length_take, Nat.min_eq_left hm] at this; exact this.symm
    · intro j hj
      have hjl : j < l.length := by omega
      have e : (codesL l)[j]'(by simpa [codesL] using hjl) = codeB l j := by simp [codesL]
      rw [e]
      intro hb
      obtain ⟨n', hn'⟩ : ∃ n', l[j]? = some n' := ⟨_, List.getElem?_eq_getElem hjl⟩
      obtain ⟨b1, b2, b3, b4⟩ := hbeg j n' hn' hb
      rcases Nat.lt_trichotomy n' m with q | q | q
      · have := hmin n' q; omega
      · subst q
        have : rank l j n' = k := by omega
        rw [this, hk] at b4; cases b4; omega
      · have h1 := firstC_step l (m := m) (n := n' - 1) (by omega)
        rw [show n' - 1 + 1 = n' by omega] at h1
        have hkl : k < (those l m).length := by rcases Nat.lt_or_ge k (those l m).length with q2 | q2; exact q2; rw [List.getElem?_eq_none q2] at hk; cases hk
        have e2 : A.take n' = A.take m ++ (A.drop m).take (n' - m) := by rw [← List.take_add, show m + (n' - m) = n' by omega]
        have e3 : ((A.drop m).take (n' - m)).length = n' - m := by rw [List.length_take, List.length_drop]; omega
        have h3 := num_lt ((A.drop m).take (n' - m))
        rw [e2, num_append, e3, hnum] at b2
        rw [e3] at h3
        have h4 : (firstC l m + k + 1) * 2 ^ (n' - m) ≤ (firstC l m + (those l m).length) * 2 ^ (n' - m) := Nat.mul_le_mul_right _ (by omega)
        rw [Nat.add_mul] at h4; omega
  | error e =>
    rw [hq] at hg
    refine ⟨hg.1, ?_⟩
    rw [List.findIdx?_eq_none_iff]
    intro x hx
    obtain ⟨j, hj, rfl⟩ := List.mem_map.mp hx
    have hjl : j < l.length := by simpa using hj
    obtain ⟨n', hn'⟩ : ∃ n', l[j]? = some n' := ⟨_, List.getElem?_eq_getElem hjl⟩
    cases hb : begB A (codeB l j) with
    | false => rfl
    | true =>
      obtain ⟨b1, b2, b3, b4⟩ := hbeg j n' hn' hb
      have := hg.2 n' (by simpa using b1); omega
def incL : List Bool → List Bool × Bool
  | [] => ([], true)
  | b :: r => ((b != (incL r).2) :: (incL r).1, (incL r).2 && b)
theorem incL_len : ∀ l, (incL l).1.length = l.length
  | [] => rfl
  | b :: r => by simp [incL, incL_len r]
theorem incL_bits : ∀ (n v : Nat), incL (bitsN n v) = (bitsN n (v + 1), decide ((v + 1) % 2 ^ n = 0))
  | 0, v => by simp [bitsN, incL, Nat.mod_one]
  | n + 1, v => by
    rw [bitsN_cons, incL, incL_bits n v, bitsN_cons n (v + 1)]
    have hp := Nat.two_pow_pos n
    have hv := Nat.div_add_mod v (2 ^ n)
    have hr := Nat.mod_lt v hp
    have hpp : 2 ^ (n + 1) = 2 ^ n * 2 := Nat.pow_succ ..
    obtain ⟨p, hpe⟩ : ∃ p, p = 2 ^ n := ⟨_, rfl⟩
    obtain ⟨q, hq⟩ : ∃ q, q = v / 2 ^ n := ⟨_, rfl⟩
    obtain ⟨r, hre⟩ : ∃ r, r = v % 2 ^ n := ⟨_, rfl⟩
    rw [hpp, ← hpe, Nat.mod_mul]
    rw [← hpe] at hp hq hre hr hv
    rw [← hq] at hv ⊢
    rw [← hre] at hv hr
    by_cases hz : r + 1 = p
    · have e1 : v + 1 = p * (q + 1) := by rw [Nat.mul_add]; omega
      rw [e1, Nat.mul_div_cancel_left _ hp, Nat.mul_mod_right]
      rcases Nat.mod_two_eq_zero_or_one q with z | z
      · have : (q + 1) % 2 = 1 := by omega
        simp [z, this]; omega
      · have : (q + 1) % 2 = 0 := by omega
        simp [z, this]
    · have e1 : v + 1 = p * q + (r + 1) := by omega
      have e2 : (r + 1) % p = r + 1 := Nat.mod_eq_of_lt (by omega)
      rw [e1, Nat.mul_add_div hp, Nat.div_eq_of_lt (show r + 1 < p by omega), Nat.mul_add_mod, e2]
      simp
theorem bitsN_pad (n x : Nat) : ∀ k, bitsN (n + k) (x * 2 ^ k) = bitsN n x ++ List.replicate k false
  | 0 => by simp
  | k + 1 => by
    have e1 : x * 2 ^ (k + 1) / 2 = x * 2 ^ k := by rw [Nat.pow_succ, ← Nat.mul_assoc]; omega
    have e2 : x * 2 ^ (k + 1) % 2 = 0 := by rw [Nat.pow_succ, ← Nat.mul_assoc]; omega
    rw [show n + (k + 1) = (n + k) + 1 by omega, bitsN, e1, e2, bitsN_pad n x k, List.append_assoc, List.replicate_succ']; rfl
def nextL (L : List Bool) (n : Nat) : List Bool := (incL L).1 ++ List.replicate (n - L.length) false
theorem nextL_bits {n k v : Nat} (h : k ≤ n) : nextL (bitsN k v) n = bitsN n ((v + 1) * 2 ^ (n - k)) := by
  have := bitsN_pad k (v + 1) (n - k)
  rw [show k + (n - k) = n by omega] at this
  rw [nextL, incL_bits, bitsN_len, this]
end Go.Proofs.YtegjkhgaoabfcaaGreat
