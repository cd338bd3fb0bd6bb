/- Part 8 (a part of the proof of UnstreamWith; no condition). -/
import Derived.Test.YtegjkhgaoabfcaaGreatWg
set_option linter.unusedSimpArgs false
set_option linter.unusedVariables false
set_option maxRecDepth 10000
namespace Go.Proofs.YtegjkhgaoabfcaaGreat
open Go.AE
abbrev uv (n : Nat) : Value := .int .u32 n
theorem wrapU32m (x : Nat) : IntKind.u32.wrap (x : Int) = ((x % 4294967296 : Nat) : Int) := by
  unfold IntKind.wrap; simp [IntKind.signed, IntKind.bits]
theorem xorU {P : Program} {t : TypeId} (a b : Nat) (ha : a < 4294967296) (hb : b < 4294967296) : evBin P .xor t (uv a) (uv b) = some (uv (a ^^^ b)) := by
  have hlt : a ^^^ b < 2 ^ 32 := Nat.xor_lt_two_pow ha hb
  have h3 : IntKind.u32.wrap ((BitVec.ofInt 32 (a : Int) ^^^ BitVec.ofInt 32 (b : Int)).toNat) = ((a ^^^ b : Nat) : Int) := by
    have e1 : BitVec.ofInt 32 (a : Int) = BitVec.ofNat 32 a := rfl
    have e2 : BitVec.ofInt 32 (b : Int) = BitVec.ofNat 32 b := rfl
    have e3 : (BitVec.ofNat 32 a ^^^ BitVec.ofNat 32 b).toNat = a ^^^ b := by
      rw [BitVec.toNat_xor, BitVec.toNat_ofNat, BitVec.toNat_ofNat, Nat.mod_eq_of_lt ha, Nat.mod_eq_of_lt hb]
    rw [e1, e2, e3]; exact wrapU32 (by omega) (by omega)
  simp only [evBin, if_true]; exact congrArg (fun z => some (Value.int .u32 z)) h3
theorem xorB {P : Program} {t : TypeId} (a b : Nat) (ha : a < 256) (hb : b < 256) : evBin P .xor t (bv a) (bv b) = some (bv (a ^^^ b)) := by
  have hlt : a ^^^ b < 2 ^ 8 := Nat.xor_lt_two_pow ha hb
  have h3 : IntKind.u8.wrap ((BitVec.ofInt 8 (a : Int) ^^^ BitVec.ofInt 8 (b : Int)).toNat) = ((a ^^^ b : Nat) : Int) := by
    have e1 : BitVec.ofInt 8 (a : Int) = BitVec.ofNat 8 a := rfl
    have e2 : BitVec.ofInt 8 (b : Int) = BitVec.ofNat 8 b := rfl
    have e3 : (BitVec.ofNat 8 a ^^^ BitVec.ofNat 8 b).toNat = a ^^^ b := by
      rw [BitVec.toNat_xor, BitVec.toNat_ofNat, BitVec.toNat_ofNat, Nat.mod_eq_of_lt ha, Nat.mod_eq_of_lt hb]
    rw [e1, e2, e3]; exact wrapU8 (by omega) (by omega)
  simp only [evBin, if_true]; exact congrArg (fun z => some (Value.int .u8 z)) h3
theorem shlU {P : Program} {t : TypeId} (a j p : Nat) (k2 : IntKind) (hj : j ≤ 32) (hp : 2 ^ j = p) : evBin P .shl t (uv a) (.int k2 (j : Int)) = some (uv (a * p % 4294967296)) := by
  have h1 : ¬ (j : Int) < 0 := by omega
  have h2 : min (j : Int).toNat IntKind.u32.bits = j := by simp [IntKind.bits]; omega
  simp only [evBin, if_neg h1, h2]
  have : (a : Int) * 2 ^ j = ((a * p : Nat) : Int) := by subst hp; simp
  rw [this, wrapU32m]
theorem notU (a : Nat) (ha : a < 4294967296) : evUn .xor (uv a) = some (uv (4294967295 ^^^ a)) := by
  have hlt : 4294967295 ^^^ a < 2 ^ 32 := Nat.xor_lt_two_pow (by omega) ha
  have h3 : IntKind.u32.wrap ((BitVec.ofInt 32 4294967295 ^^^ BitVec.ofInt 32 (a : Int)).toNat) = ((4294967295 ^^^ a : Nat) : Int) := by
    have e1 : BitVec.ofInt 32 (a : Int) = BitVec.ofNat 32 a := rfl
    have e2 : BitVec.ofInt 32 4294967295 = BitVec.ofNat 32 4294967295 := rfl
    have e3 : (BitVec.ofNat 32 4294967295 ^^^ BitVec.ofNat 32 a).toNat = 4294967295 ^^^ a := by
      rw [BitVec.toNat_xor, BitVec.toNat_ofNat, BitVec.toNat_ofNat, Nat.mod_eq_of_lt ha]
    rw [e1, e2, e3]; exact wrapU32 (by omega) (by omega)
  simp only [evUn]; exact congrArg (fun z => some (Value.int .u32 z)) h3
def crcRow (x : Nat) : Nat := (x * 2 % 4294967296) ^^^ (x / 2147483648 * 79764919)
def crcB : Nat → Nat → Nat
  | 0, x => x
  | n + 1, x => crcB n (crcRow x)
def crcT (b : Nat) : Nat := crcB 8 (b * 16777216 % 4294967296)
def crcStep (x b : Nat) : Nat := (x * 256 % 4294967296) ^^^ crcT (x / 16777216 ^^^ b)
def crcOf (s : List Nat) : Nat := 4294967295 ^^^ s.foldl crcStep 4294967295
def crcCom (x b : Nat) : Nat := (x * 2 % 4294967296 ^^^ x / 2147483648) ^^^ b
theorem crcRow_lt {x : Nat} (h : x < 4294967296) : crcRow x < 4294967296 := by
  have : x / 2147483648 < 2 := by omega
  exact Nat.xor_lt_two_pow (n := 32) (by omega) (by omega)
theorem crcB_lt : ∀ (n : Nat) {x : Nat}, x < 4294967296 → crcB n x < 4294967296
  | 0, _, h => h
  | n + 1, _, h => crcB_lt n (crcRow_lt h)
theorem crcT_lt (b : Nat) : crcT b < 4294967296 := crcB_lt 8 (by omega)
theorem crcStep_lt (x b : Nat) : crcStep x b < 4294967296 := Nat.xor_lt_two_pow (n := 32) (by omega) (crcT_lt _)
theorem crcB_add (m n x : Nat) : crcB (m + n) x = crcB n (crcB m x) := by
  induction m generalizing x with
  | zero => simp [crcB]
  | succ m ih => rw [Nat.succ_add]; simp only [crcB]; exact ih _
def tabV : List Value := (List.range 256).map fun b => uv (crcT b)
theorem tab_get {b : Nat} (h : b < 256) : tabV[b]? = some (uv (crcT b)) := by
  rw [tabV, List.getElem?_map, List.getElem?_range h]; rfl
theorem tab_len : tabV.length = 256 := by simp [tabV]
theorem z232 : Tryz.t232.zero = some (.agg (List.replicate 256 (uv 0)).toArray) := by kernel_rfl
theorem z232p : plain (.agg (List.replicate 256 (uv 0)).toArray) = true := by kernel_rfl
theorem z235 : Tryz.t235.zero = some (.agg (List.replicate 257 (uv 0)).toArray) := by kernel_rfl
theorem z235p : plain (.agg (List.replicate 257 (uv 0)).toArray) = true := by kernel_rfl
theorem built235 : Program.built Tryz.prog 235 [(0, .agg tabV.toArray), (1, uv 4294967295)] = some (tabV ++ [uv 4294967295]).toArray := by kernel_rfl
theorem tab_all : tabV.all oneCell = true := by
  rw [List.all_eq_true]; intro v hv
  obtain ⟨b, _, rfl⟩ := (by simpa [tabV] using hv : ∃ b, b < 256 ∧ uv (crcT b) = v)
  rfl
attribute [irreducible] tabV
section
variable {ov : OvT} (H : OvH ov)
include H
theorem table_cr {h : Heap} {c : Nat} :
    CR Tryz.prog ov 174 [] ⟨h, c⟩ (fun v st => v = .agg tabV.toArray ∧ Keep [] h c st) := by
  refine e_0 Tryz.func174 rfl (H _ (by decide)) Tryz.ntmps174 ?_
  intro env hl
  refine sg 1 rfl (qZ i232 z232 z232p (nK (sg 1 rfl (qZ i232 z232 z232p (nK (rS (sg 1 rfl (qM hl rfl (nK (rB ?_))))))))))
  refine rL (fun m env' s' => ∃ k V0 V, m = 256 - k ∧ k ≤ 256 ∧ Hd 26 [(0, ptr c), (1, ptr (c + 1)), (5, nv k)] env' ∧ s'.heap.get c = some ⟨V0, 232, 0⟩ ∧ V0.length = 256 ∧ s'.heap.get (c + 1) = some ⟨V, 232, 0⟩ ∧ V.length = 256 ∧ (∀ i, i < k → V[i]? = some (uv (crcT i))) ∧ c + 2 ≤ s'.ctr ∧ Keep [] h c s') 256 ?_ ?_
  · refine ⟨0, List.replicate 256 (uv 0), List.replicate 256 (uv 0), rfl, by omega, Ho hl ⟨rfl, rfl, rfl, trivial⟩, ?_, by simp, ?_, by simp, fun i hi => by omega, by dsimp only; omega, ((Keep.refl (Nat.le_refl c)).set (.inl (by omega))).set (.inl (by omega)) |>.up (by omega)⟩
    · dsimp only; rw [T.get_set, if_neg (by omega), T.get_set, if_pos (by omega)]; rfl
    · dsimp only; rw [T.get_set, if_pos rfl]; rfl
  rintro m _ ⟨h2, c2⟩ ⟨k, V0, V, rfl, hk, ⟨env, hl, rfl⟩, hb0, hV0, hb, hV, hVg, hc2, hK⟩
  dsimp only at hb0 hb hc2
  refine sg 1 rfl (qB hl rfl rfl rfl (nK (rS ?_)))
  refine rC hl rfl (fun hk2 => ?_) (fun hk2 => ?_)
  · try simp only [dz, dy] at hk2
    refine rK (kN (rS (rB (sg 2 rfl (qM hl rfl (qA hl rfl (nK (sg 4 rfl (qM hl rfl (qH hl rfl Tryz.underlying3 Tryz.underlying38 (by first | exact wI (by omega) | exact wU (by omega) | exact wB (by omega) | exact wL (by omega) | rfl) ?_))))))))))
    refine qB hl rfl rfl (shlU _ 24 16777216 _ (by omega) rfl) ?_
    refine qA hl rfl (nK (rS (sg 1 rfl (qM hl rfl (nK (rB ?_))))))
    refine rL (fun m env' s' => ∃ j, m = 8 - j ∧ j ≤ 8 ∧ Hd 26 [(0, ptr c), (1, ptr (c + 1)), (5, nv k), (2, nv k), (3, uv (crcB j (k * 16777216 % 4294967296))), (11, nv j)] env' ∧ s'.heap = h2 ∧ c2 ≤ s'.ctr) 8 ?_ ?_
    · exact ⟨0, rfl, by omega, Ho hl ⟨rfl, rfl, rfl, rfl, rfl, rfl, trivial⟩, rfl, by dsimp only; omega⟩
    rintro m _ ⟨h3, c3⟩ ⟨j, rfl, hj, ⟨env, hl, rfl⟩, he, hc3⟩
    dsimp only at he hc3
    subst he
    refine sg 1 rfl (qB hl rfl rfl rfl (nK (rS ?_)))
    refine rC hl rfl (fun hj2 => ?_) (fun hj2 => ?_)
    · try simp only [dz, dy] at hj2
      obtain ⟨y, hy⟩ : ∃ y, y = crcB j (k * 16777216 % 4294967296) := ⟨_, rfl⟩
      have hylt : y < 4294967296 := by rw [hy]; exact crcB_lt _ (by omega)
      rw [← hy]
      have hs : crcB (j + 1) (k * 16777216 % 4294967296) = crcRow y := by rw [crcB_add, ← hy]; rfl
      refine rK (kN (rS (rB (sg 3 rfl (qM hl rfl (qB hl rfl rfl (shrP .u32 _ 2147483648 _ _ ⟨by omega, by decide⟩ rfl) ?_))))))
      refine qA hl rfl (nK (rg 6 rfl (qM hl rfl (qB hl rfl rfl (shlU _ 1 2 _ (by omega) rfl) ?_))))
      refine qM hl rfl (q_mul hl rfl rfl (m := ((y / 2147483648 * 79764919 : Nat) : Int)) (by rw [wrapU32 (by omega) (by omega)]; omega) ?_)
      refine qB hl rfl rfl (xorU _ _ (by omega) (by omega)) ?_
      refine qA hl rfl (rN (kO (kN (rg 2 rfl (qP hl rfl rfl (by first | exact wI (by omega) | exact wU (by omega) | exact wB (by omega) | exact wL (by omega) | rfl) ?_)))))
      refine qM hl rfl (nK ?_)
      exact ⟨8 - (j + 1), by omega, j + 1, rfl, by omega, Ho hl ⟨rfl, rfl, rfl, rfl, by rw [hs]; rfl, rfl, trivial⟩, rfl, by dsimp only; omega⟩
    · try simp only [dz, dy] at hj2
      have ej : j = 8 := by omega
      subst ej
      refine r_exit (kE (kE (kB (kN (rg 4 rfl (qM hl rfl (qM hl rfl (q_indexAddrA hl rfl rfl Tryz.underlying232 i38 s38 ⟨by omega, by omega⟩ ?_))))))))
      refine qW hl rfl rfl (by first | assumption | (simp only [gs]; rfl) | (simp [gs]; try rfl)) p38 rfl rfl (by simp [hV]; omega) ?_
      refine rN (kO (kN (rg 2 rfl (qP hl rfl rfl (by first | exact wI (by omega) | exact wU (by omega) | exact wB (by omega) | exact wL (by omega) | rfl) ?_))))
      refine qM hl rfl (nK ?_)
      refine ⟨256 - (k + 1), by omega, k + 1, V0, V.set k (uv (crcT k)), rfl, by omega, Ho hl ⟨rfl, rfl, rfl, trivial⟩, ?_, hV0, ?_, by simp [hV], fun i hi => ?_, by dsimp only; omega, (hK.up (by omega)).set (.inl (by omega))⟩
      · dsimp only; rw [T.get_set, if_neg (by omega)]; exact hb0
      · dsimp only; rw [T.get_set, if_pos rfl, show 0 + ((k : Nat) : Int).toNat * 1 = k by omega]; rfl
      · rw [List.getElem?_set]; split
        · rename_i e; subst e; rw [if_pos (by omega)]
        · exact hVg i (by omega)
  · try simp only [dz, dy] at hk2
    have ek : k = 256 := by omega
    subst ek
    have hVt : V = tabV := by apply List.ext_getElem?; intro i; rcases Nat.lt_or_ge i 256 with q | q; (rw [hVg i q, tab_get q]); (rw [List.getElem?_eq_none (by omega), List.getElem?_eq_none (by rw [tab_len]; omega)])
    subst hVt
    have hset : setCells V0 0 (Value.agg tabV.toArray).cells.toList = tabV := by rw [setCells_eq _ _ _ (by simp [Value.cells, tab_len, hV0])]; simp [Value.cells, tab_len, hV0]
    refine r_exit (kE (kE (kB (kN (sg 2 rfl (qL hl rfl (by first | assumption | (simp only [gs]; rfl) | (simp [gs]; try rfl)) (by exact (p232.1 _ _).trans (by rw [if_pos (by simp [tab_len])]; simp only [List.drop_zero]; rw [List.take_of_length_le (by simp [tab_len])])) (v := .agg tabV.toArray) ?_))))))
    refine qV hl rfl rfl (by first | assumption | (simp only [gs]; rfl) | (simp [gs]; try rfl)) p232 (by simp [Value.cells, tab_len]) (by rw [show (Value.agg tabV.toArray).cells.toList = tabV by simp [Value.cells]]; exact tab_all) (by simp [hV0]) ?_
    refine nK (rR (f_c hl rfl (.inl rfl) rfl  (T.get_set _ _ _ _ |>.trans (if_pos rfl)) (by dsimp only; rw [hset, p232.1, if_pos (by simp [tab_len])]; simp only [List.drop_zero]; rw [List.take_of_length_le (by simp [tab_len])]) (v := .agg tabV.toArray) ?_))
    exact ⟨rfl, (hK.up (by omega)).set (.inl (by omega))⟩
def SuR (x b : Nat) (g : Nat → Option Blk) : Prop := x < 4294967296 ∧ g b = some ⟨tabV ++ [uv x], 235, 0⟩
omit H in
theorem su_get (x : Nat) : (tabV ++ [uv x])[0 + 256]? = some (uv x) := by
  rw [List.getElem?_append_right (by rw [tab_len]; omega)]; simp [tab_len]
omit H in
theorem su_set (x y : Nat) : (tabV ++ [uv x]).set (0 + 256) (uv y) = tabV ++ [uv y] := by
  rw [List.set_append_right _ _ (by rw [tab_len]; omega)]; simp [tab_len]
theorem suNew_cr {h : Heap} {c : Nat} :
    CR Tryz.prog ov 140 [] ⟨h, c⟩ (fun v st => ∃ b, v = ptr b ∧ SuR 4294967295 b st.heap.get ∧ c ≤ b ∧ b < st.ctr ∧ Keep [] h c st) := by
  refine e_0 Tryz.func140 rfl (H _ (by decide)) Tryz.ntmps140 ?_
  intro env hl
  refine sg 1 rfl (qA hl rfl (nK (sg 4 rfl (qC hl rfl (CR.mono (table_cr H) ?_)))))
  rintro v ⟨hh1, cc1⟩ ⟨rfl, hK⟩
  have hcc1 := hK.1
  dsimp only at hcc1
  refine qU hl rfl i235 z235 z235p built235 (q_box hl rfl (qA hl rfl (nK (rR (f_1 hl rfl (.inl rfl) rfl ?_)))))
  refine ⟨_, rfl, ⟨by omega, ?_⟩, by omega, by dsimp only; omega, (hK.base (by omega)).set (.inl (by omega))⟩
  dsimp only; rw [T.get_set, if_pos rfl]; simp [Value.cells]
theorem suStep_cr {h : Heap} {c b x y : Nat} (hP : SuR x b h.get) (hy : y < 256) :
    CR Tryz.prog ov 198 [ptr b, uv x, bv y] ⟨h, c⟩ (fun v st => v = uv (crcStep x y) ∧ Same h c st) := by
  obtain ⟨hx, hb⟩ := hP
  have hz : x / 16777216 ^^^ y < 2 ^ 8 := Nat.xor_lt_two_pow (by omega) hy
  refine e_3 Tryz.func198 rfl (H _ (by decide)) Tryz.ntmps198 (by decide) ?_
  intro env hl
  refine sg 1 rfl (qA hl rfl (nK (sg 13 rfl (qM hl rfl (qB hl rfl rfl (shlU _ 8 256 _ (by omega) rfl) ?_)))))
  refine qM hl rfl (qM hl rfl (qB hl rfl rfl (shrP .u32 _ 16777216 _ _ ⟨by omega, by decide⟩ rfl) ?_))
  refine qH hl rfl Tryz.underlying38 Tryz.underlying5 (by first | exact wI (by omega) | exact wU (by omega) | exact wB (by omega) | exact wL (by omega) | rfl) ?_
  refine qM hl rfl (qB hl rfl rfl (xorB _ _ (by omega) hy) ?_)
  refine qN hl rfl (q_indexAddrA hl rfl rfl Tryz.underlying232 i38 s38 ⟨by omega, by omega⟩ ?_)
  refine qL hl rfl (by assumption) (by exact (p38.1 _ _).trans (by rw [show 0 + ((x / 16777216 ^^^ y : Nat) : Int).toNat * 1 = (x / 16777216 ^^^ y) by omega, List.getElem?_append_left (by rw [tab_len]; omega)]; exact tab_get (by omega))) (v := uv (crcT (x / 16777216 ^^^ y))) ?_
  refine qB hl rfl rfl (xorU _ _ (by omega) (crcT_lt _)) ?_
  refine qA hl rfl (nK (rR (f_1 hl rfl (.inl rfl) rfl ?_)))
  exact ⟨rfl, rfl, by simp <;> omega⟩
theorem suPut_cr {h : Heap} {c b x y : Nat} (hP : SuR x b h.get) (hc : b < c) (hy : y < 256) :
    CR Tryz.prog ov 175 [ptr b, bv y] ⟨h, c⟩ (fun v st => SuR (crcStep x y) b st.heap.get ∧ Keep [b] h c st) := by
  obtain ⟨hx, hb⟩ := id hP
  refine e_2 Tryz.func175 rfl (H _ (by decide)) Tryz.ntmps175 (by decide) ?_
  intro env hl
  refine sg 2 rfl (qM hl rfl (qB hl rfl rfl (nn149 _) (nK (rT hl rfl (by first | rfl | (simp only [dz]; omega) | (simp; done) | (simp; omega)) ?_))))
  refine rD [] (by decide +kernel) (by decide +kernel) (n := 13) rfl ?_
  refine qM hl rfl (qM hl rfl (qN hl rfl (qF hl rfl fa235_0 (qM hl rfl (qN hl rfl (qF hl rfl fa235_1 (qL hl rfl (by assumption) ((p38.1 _ _).trans (su_get x)) (v := uv x) ?_)))))))
  refine qM hl rfl (qC hl rfl (CR.mono (suStep_cr H hP hy) ?_))
  rintro v ⟨hh1, cc1⟩ ⟨rfl, rfl, hk⟩
  try dsimp only at hk
  refine qN hl rfl (qF hl rfl fa235_1 (qW hl rfl rfl (by assumption) p38 rfl rfl (by simp [tab_len]) ?_))
  refine ro_nild (f_0 rfl (.inr rfl) ?_)
  refine ⟨⟨crcStep_lt x y, ?_⟩, ((Keep.refl (Nat.le_refl c)).set (nm := b) (.inr (by simp))).up (by omega)⟩
  dsimp only; rw [T.get_set, if_pos rfl, su_set]
theorem suValue_cr {h : Heap} {c b x : Nat} (hP : SuR x b h.get) :
    CR Tryz.prog ov 142 [ptr b] ⟨h, c⟩ (fun v st => v = uv (4294967295 ^^^ x) ∧ Same h c st) := by
  obtain ⟨hx, hb⟩ := hP
  refine e_1 Tryz.func142 rfl (H _ (by decide)) Tryz.ntmps142 (by decide) ?_
  intro env hl
  refine sg 1 rfl (qA hl rfl (nK (rS (sg 2 rfl (qM hl rfl (qB hl rfl rfl (nq149 _) (nK (rF hl rfl (by first | rfl | (simp only [dz]; omega) | (simp; done) | (simp; omega)) ?_))))))))
  refine rK (kN (sg 6 rfl (qM hl rfl (qN hl rfl (qF hl rfl fa235_1 (qL hl rfl (by assumption) ((p38.1 _ _).trans (su_get x)) (v := uv x) ?_))))))
  refine q_un hl rfl (notU x hx) (qA hl rfl (nK (rR (f_1 hl rfl (.inl rfl) rfl ?_))))
  exact ⟨rfl, rfl, by simp <;> omega⟩
theorem suText_cr {h : Heap} {c b : Nat} {s : List Nat} (hP : SuR 4294967295 b h.get) (hc : b < c) (h256 : ∀ x ∈ s, x < 256) (hn : s.length ≤ 2 ^ 40) :
    CR Tryz.prog ov 141 [ptr b, .string (txt s)] ⟨h, c⟩ (fun v st => SuR (s.foldl crcStep 4294967295) b st.heap.get ∧ Keep [b] h c st) := by
  have hsz := txt_size s
  refine e_2 Tryz.func141 rfl (H _ (by decide)) Tryz.ntmps141 (by decide) ?_
  intro env hl
  refine sg 3 rfl (qM hl rfl (qK hl rfl Tryz.underlying9 ?_))
  rw [hsz]
  refine qM hl rfl (nK (rB ?_))
  refine rL (fun m env' s' => ∃ j, m = s.length - j ∧ j ≤ s.length ∧ Hd 16 [(0, ptr b), (1, .string (txt s)), (6, nv s.length), (7, nv j)] env' ∧ SuR ((s.take j).foldl crcStep 4294967295) b s'.heap.get ∧ Keep [b] h c s') s.length ?_ ?_
  · exact ⟨0, rfl, Nat.zero_le _, Ho hl ⟨rfl, rfl, rfl, rfl, trivial⟩, hP, Keep.refl (by omega)⟩
  rintro m _ ⟨h2, c2⟩ ⟨j, rfl, hj, ⟨env, hl, rfl⟩, hP2, hK⟩
  dsimp only at hP2
  have hcc := hK.1
  dsimp only at hcc
  refine sg 1 rfl (qB hl rfl rfl rfl (nK (rS ?_)))
  refine rC hl rfl (fun hjn => ?_) (fun hjn => ?_)
  · try simp only [dz, dy] at hjn
    obtain ⟨x, hx⟩ : ∃ x, s[j]? = some x := ⟨_, List.getElem?_eq_getElem (by omega)⟩
    have hx2 := h256 x (List.mem_of_getElem? hx)
    have hxn : (UInt8.ofNat x).toNat = x := by simp [UInt8.toNat_ofNat, Nat.mod_eq_of_lt hx2]
    refine rK (kN (rS (rB (sg 2 rfl (qM hl rfl (qA hl rfl (nK (rg 5 rfl (qM hl rfl (qM hl rfl (qM hl rfl (qJ hl rfl rfl Tryz.underlying9 (by omega) (txt_get hx) ?_))))))))))))
    simp only [hxn]
    refine qC hl rfl (CR.mono (suPut_cr H hP2 (by omega) hx2) ?_)
    rintro v ⟨hh1, cc1⟩ ⟨hP3, hK3⟩
    refine rN (kO (kN (rg 2 rfl (qP hl rfl rfl (by first | exact wI (by omega) | exact wU (by omega) | exact wB (by omega) | exact wL (by omega) | rfl) ?_))))
    refine qM hl rfl (nK ?_)
    have htk : (s.take (j + 1)).foldl crcStep 4294967295 = crcStep ((s.take j).foldl crcStep 4294967295) x := by rw [List.take_add_one, hx, List.foldl_append]; rfl
    exact ⟨s.length - (j + 1), by omega, j + 1, rfl, by omega, Ho hl ⟨rfl, rfl, rfl, rfl, trivial⟩, by rw [htk]; exact hP3, ((hK.up (by omega)).call hK3 (fun z hz => .inr hz)).up (by omega)⟩
  · try simp only [dz, dy] at hjn
    refine r_exit (kE (kE (kB (f_0 rfl (.inr rfl) ?_))))
    have ej : j = s.length := by omega
    subst ej
    rw [List.take_length] at hP2
    exact ⟨hP2, hK.up (by omega)⟩
theorem crcOf_cr {h : Heap} {c : Nat} {s : List Nat} (h256 : ∀ x ∈ s, x < 256) (hn : s.length ≤ 2 ^ 40) :
    CR Tryz.prog ov 108 [.string (txt s)] ⟨h, c⟩ (fun v st => v = uv (crcOf s) ∧ Keep [] h c st) := by
  refine e_1 Tryz.func108 rfl (H _ (by decide)) Tryz.ntmps108 (by decide) ?_
  intro env hl
  refine sg 1 rfl (qA hl rfl (nK (sg 2 rfl (qC hl rfl (CR.mono (suNew_cr H) ?_)))))
  rintro v ⟨hh1, cc1⟩ ⟨b, rfl, hP, hb1, hb2, hK⟩
  refine qA hl rfl (nK (sg 3 rfl ?_))
  have hcc1 := hK.1
  dsimp only at hcc1 hP hb2
  refine qM hl rfl (qM hl rfl (qC hl rfl (CR.mono (suText_cr H hP (by omega) h256 hn) ?_)))
  rintro v ⟨hh2, cc2⟩ ⟨hP2, hK2⟩
  refine nK (sg 3 rfl ?_)
  have hcc2 := hK2.1
  dsimp only at hcc2 hP2
  refine qM hl rfl (qC hl rfl (CR.mono (suValue_cr H hP2) ?_))
  rintro v ⟨hh3, cc3⟩ ⟨rfl, rfl, hk⟩
  try dsimp only at hk
  refine qA hl rfl (nK (rR (f_1 hl rfl (.inl rfl) rfl ?_)))
  exact ⟨rfl, (((hK.base (by omega)).up (c3 := cc1 + 3) (by omega)).call hK2 (fun z hz => by simp only [List.mem_singleton] at hz; left; omega)).up (by omega)⟩
theorem combine_cr {h : Heap} {c x y : Nat} (hx : x < 4294967296) (hy : y < 4294967296) :
    CR Tryz.prog ov 156 [uv x, uv y] ⟨h, c⟩ (fun v st => v = uv (crcCom x y) ∧ Same h c st) := by
  have h1 : x * 2 % 4294967296 ^^^ x / 2147483648 < 2 ^ 32 := Nat.xor_lt_two_pow (by omega) (by omega)
  refine e_2 Tryz.func156 rfl (H _ (by decide)) Tryz.ntmps156 (by decide) ?_
  intro env hl
  refine sg 1 rfl (qA hl rfl (nK (sg 8 rfl (qM hl rfl (qB hl rfl rfl (shlU _ 1 2 _ (by omega) rfl) ?_)))))
  refine qM hl rfl (qB hl rfl rfl (shrP .u32 _ 2147483648 _ _ ⟨by omega, by decide⟩ rfl) ?_)
  refine qB hl rfl rfl (xorU _ _ (by omega) (by omega)) ?_
  refine qM hl rfl (qB hl rfl rfl (xorU _ _ (by omega) hy) ?_)
  refine qA hl rfl (nK (rR (f_1 hl rfl (.inl rfl) rfl ?_)))
  exact ⟨rfl, rfl, by simp <;> omega⟩
theorem room_cr {h : Heap} {c : Nat} {u : Int} :
    CR Tryz.prog ov 70 [nv 1, iv u] ⟨h, c⟩ (fun v st => (∃ x, v = .tuple #[x, nv (if 24 ≤ u ∧ u ≤ 100000 then 0 else 1)]) ∧ Same h c st) := by
  refine e_2 Tryz.func70 rfl (H _ (by decide)) Tryz.ntmps70 (by decide) ?_
  intro env hl
  refine sg 2 rfl (qA hl rfl (qA hl rfl (nK (rS (sg 14 rfl (qM hl rfl (qB hl rfl rfl rfl (qM hl rfl (qG hl rfl rfl rfl rfl (qM hl rfl (qG hl rfl rfl rfl rfl (qB hl rfl rfl rfl (qQ hl rfl rfl rfl (rfl) (qM hl rfl (qG hl rfl rfl rfl rfl (qM hl rfl (qG hl rfl rfl rfl rfl (qB hl rfl rfl rfl (qQ hl rfl rfl rfl (rfl) (qM hl rfl ?_))))))))))))))))))))
  refine q_case hl (rfl : lk _ _ 16 = _) (fun h1 => ?_) (fun h1 => ?_)
  · have h1_ := h1
    try simp only [dz] at h1_
    refine qS hl rfl rfl rfl rfl (by rw [h1]; decide) ?_
    refine qS hl rfl rfl rfl rfl (by rw [h1]; decide) ?_
    refine qQ hl rfl rfl rfl (if_pos h1) (nK (rT hl rfl (by rfl) ?_))
    refine sg 2 rfl (qA hl rfl (qA hl rfl (nK (rR (kR (f_2 hl rfl (.inl rfl) rfl rfl ?_))))))
    refine ⟨⟨iv 0, ?_⟩, rfl, by simp <;> omega⟩
    rw [if_neg (by omega)]; rfl
  · have h1_ := h1
    try simp only [dz] at h1_
    refine qG hl rfl rfl rfl h1 (qM hl rfl (qG hl rfl rfl rfl h1 (qB hl rfl rfl rfl (qQ hl rfl rfl rfl (if_neg (by rw [h1]; decide)) ?_))))
    refine nK ?_
    refine rC hl rfl (fun h2 => ?_) (fun h2 => ?_)
    · try simp only [dz, dy] at h2
      refine sg 2 rfl (qA hl rfl (qA hl rfl (nK (rR (kR (f_2 hl rfl (.inl rfl) rfl rfl ?_))))))
      refine ⟨⟨iv 0, ?_⟩, rfl, by simp <;> omega⟩
      rw [if_neg (by omega)]; rfl
    · try simp only [dz, dy] at h2
      refine rK (kN (sg 6 rfl (qM hl rfl (qM hl rfl (q_mul hl rfl rfl (by first | exact wI (by omega) | exact wU (by omega) | exact wB (by omega) | exact wL (by omega) | rfl) ?_)))))
      refine q_sub hl rfl rfl (by first | exact wI (by omega) | exact wU (by omega) | exact wB (by omega) | exact wL (by omega) | rfl) ?_
      refine qA hl rfl (qA hl rfl (nK (rR (f_2 hl rfl (.inl rfl) rfl rfl ?_))))
      refine ⟨⟨iv (1 * u - 19), ?_⟩, rfl, by simp <;> omega⟩
      rw [if_pos (by omega)]; rfl
end
end Go.Proofs.YtegjkhgaoabfcaaGreat
namespace Go.AE
theorem CR_ov {P : Program} {ov : OvT} {f : FuncId} {fn : Func} {g : List Value → St → Option (Value × St)} {c : Code} {args : List Value} {s s' : St} {v : Value} {Q : Value → St → Prop} (hf : P.funcs[f]? = some fn) (hb : fn.body = some c) (ho : ov f = some g) (hg : g args s = some (v, s')) (hq : Q v s') : CR P ov f args s Q :=
  ⟨1, v, s', by simp only [evCall, hf, hb, ho, hg], hq⟩
end Go.AE
namespace Go.Proofs.YtegjkhgaoabfcaaGreat
open Go.AE
def strB (args : List Value) (st : St) : Option (Value × St) :=
  match args with
  | [.pointer (some ⟨b, 0, none⟩)] => match st.heap.get b with
    | some ⟨[_, .slice none 0 0], _, 0⟩ => some (.string ⟨#[]⟩, st)
    | some ⟨[_, .slice (some ⟨a, 0, none⟩) n _], _, 0⟩ => match st.heap.get a with
      | some ⟨cs, e, 1⟩ => if e = 5 ∧ cs.length = n ∧ n ≠ 0 ∧ n ≤ 9223372036854775807 then (bytesOf cs).map fun bs => (.string ⟨bs.toArray⟩, ⟨st.heap.del a, st.ctr⟩) else none
      | _ => none
    | _ => none
  | _ => none
def chkB (args : List Value) (st : St) : Option (Value × St) :=
  match args with
  | [.pointer (some ⟨b, 0, none⟩)] => match st.heap.get b with
    | some ⟨[.pointer none, s], e, 0⟩ => if e = 104 then some (.tuple #[], ⟨st.heap.set b ⟨[.pointer (some ⟨b, 0, none⟩), s], e, 0⟩, st.ctr⟩) else none
    | some ⟨[.pointer (some ⟨b2, 0, none⟩), s], e, 0⟩ => if b2 = b then some (.tuple #[], st) else none
    | _ => none
  | _ => none
structure OvB (ov : OvT) : Prop where
  h : OvH ov
  o63 : ov 63 = some strB
  o109 : ov 109 = some chkB
  o65 : ov 65 = none
def BuR (bs : List Nat) (b : Nat) (a : Option Addr) (g : Nat → Option Blk) : Prop := (∀ x ∈ bs, x < 256) ∧ ∃ p cp, (p = .pointer none ∨ p = ptr b) ∧ g b = some ⟨[p, .slice a bs.length cp], 104, 0⟩ ∧ SlR 5 1 (bs.map bv) a bs.length cp g
theorem BuR.move {bs : List Nat} {b : Nat} {a : Option Addr} {g g' : Nat → Option Blk} (h : BuR bs b a g) (hg : ∀ z, z = b ∨ z ∈ own a → g' z = g z) : BuR bs b a g' := by
  obtain ⟨h0, p, cp, h1, h2, h3⟩ := h
  exact ⟨h0, p, cp, h1, (hg b (.inl rfl)).trans h2, h3.move (fun z hz => hg z (.inr hz))⟩
def openR (last : List Nat) (o sum : Nat) : Except Nat (List Nat) := match unpk 0 0 (unbw last o) with
  | .error _ => .error 25
  | .ok out => if crcOf out = sum then .ok out else .error 21
theorem unbw_len (s : List Nat) (o : Nat) : (unbw s o).length = s.length := by simp [unbw, outI]
theorem unbw_lt {s : List Nat} {o : Nat} (h : ∀ x ∈ s, x < 256) : ∀ x ∈ unbw s o, x < 256 := by
  intro x hx
  simp only [unbw, outI, List.mem_map] at hx
  obtain ⟨i, _, rfl⟩ := hx
  rw [List.getD_eq_getElem?_getD]
  cases hq : s[atI (ordU s 256) o (i + 1)]? with
  | none => simp
  | some y => exact h y (List.mem_of_getElem? hq)
theorem unpk_len {s : List Nat} (h : ∀ x ∈ s, x < 256) : ∀ {run p : Nat} {out : List Nat}, unpk run p s = .ok out → out.length ≤ 251 * s.length := by
  induction s with
  | nil => intro run p out h; simp only [unpk] at h; split at h <;> cases h; simp
  | cons x s ih =>
    intro run p out hu
    simp only [unpk] at hu
    have ih' := fun {run p out} => ih (fun y hy => h y (by simp [hy])) (run := run) (p := p) (out := out)
    split at hu
    · split at hu
      · cases hu
      · cases hq : unpk 0 x s with
        | error e' => rw [hq] at hu; cases hu
        | ok y => rw [hq] at hu; cases hu; have := ih' hq; simp; omega
    · split at hu
      · cases hq : unpk (run + 1) x s with
        | error e' => rw [hq] at hu; cases hu
        | ok y => rw [hq] at hu; cases hu; have := ih' hq; simp; omega
      · cases hq : unpk 1 x s with
        | error e' => rw [hq] at hu; cases hu
        | ok y => rw [hq] at hu; cases hu; have := ih' hq; simp; omega
section
variable {ov : OvT} (H : OvH ov)
include H
theorem open_cr {h : Heap} {c o sum : Nat} {s : List Nat} (h256 : ∀ x ∈ s, x < 256) (hn : s.length ≤ 900000) (ho : o < s.length) (hs : sum < 4294967296) :
    CR Tryz.prog ov 64 [.agg #[.string (txt s), nv o, uv sum]] ⟨h, c⟩ (fun v st => (match openR s o sum with
      | .ok out => v = .tuple #[.string (txt out), nv 0] ∧ (∀ x ∈ out, x < 256) ∧ out.length ≤ 225900000
      | .error e => v = .tuple #[nostr, nv e] ∧ e ≠ 0) ∧ Keep [] h c st) := by
  have hD := fun (h' : Heap) (c' : Nat) => decode_cr H (h := h') (c := c') (unbw_lt (o := o) h256) (by rw [unbw_len]; exact hn)
  cases hu : unpk 0 0 (unbw s o) with
  | error e =>
    have he := unpk_err hu
    have ho' : openR s o sum = .error 25 := by simp only [openR, hu]
    rw [ho']
    simp only [hu] at hD
    refine e_1 Tryz.func64 rfl (H _ (by decide)) Tryz.ntmps64 (by decide) ?_
    intro env hl
    refine sg 3 rfl (q_box hl rfl (qA hl rfl (qA hl rfl (nK (sg 10 rfl (qF hl rfl fa40_0 (qL hl rfl (by first | assumption | (simp only [gs]; rfl) | (simp [gs]; try rfl)) ((p9.1 _ _).trans rfl) ?_)))))))
    refine qF hl rfl fa40_1 (qL hl rfl (by first | assumption | (simp only [gs]; rfl) | (simp [gs]; try rfl)) ((p3.1 _ _).trans rfl) ?_)
    refine qC hl rfl (CR.mono (unbwtOf_cr H h256 hn ho) ?_)
    rintro v ⟨hh1, cc1⟩ ⟨rfl, hK⟩
    have hcc1 := hK.1
    dsimp only at hcc1
    refine qM hl rfl (qE hl rfl rfl (qE hl rfl rfl (qA hl rfl (qA hl rfl (nK (rS (sg 2 rfl (qM hl rfl (qB hl rfl rfl rfl (nK (rF hl rfl (by first | rfl | (simp only [dz]; omega) | (simp; done) | (simp; omega)) ?_)))))))))))
    refine rK (kN (sg 7 rfl (qM hl rfl (qC hl rfl (CR.mono (hD _ _) ?_)))))
    rintro v ⟨hh2, cc2⟩ ⟨rfl, hK2⟩
    refine qM hl rfl (qE hl rfl rfl (qE hl rfl rfl (qA hl rfl (qA hl rfl (nK (rS (rB (sg 3 rfl (qM hl rfl (qB hl rfl rfl rfl (qA hl rfl (nK (rT hl rfl (by simp; omega) ?_)))))))))))))
    refine sg 2 rfl (qA hl rfl (qA hl rfl (nK (rR (k_bloR (kR (f_2 hl rfl (.inl rfl) rfl rfl ?_)))))))
    exact ⟨⟨rfl, by decide⟩, ((((Keep.refl (Nat.le_refl c)).set (.inl (by omega))).call (hK.base (c0 := c) (by omega)) (by simp) |>.up (by omega)).call hK2 (by simp)).up (by omega)⟩
  | ok out =>
    simp only [hu] at hD
    have hol := unpk_len (unbw_lt (o := o) h256) hu
    rw [unbw_len] at hol
    refine e_1 Tryz.func64 rfl (H _ (by decide)) Tryz.ntmps64 (by decide) ?_
    intro env hl
    refine sg 3 rfl (q_box hl rfl (qA hl rfl (qA hl rfl (nK (sg 10 rfl (qF hl rfl fa40_0 (qL hl rfl (by first | assumption | (simp only [gs]; rfl) | (simp [gs]; try rfl)) ((p9.1 _ _).trans rfl) ?_)))))))
    refine qF hl rfl fa40_1 (qL hl rfl (by first | assumption | (simp only [gs]; rfl) | (simp [gs]; try rfl)) ((p3.1 _ _).trans rfl) ?_)
    refine qC hl rfl (CR.mono (unbwtOf_cr H h256 hn ho) ?_)
    rintro v ⟨hh1, cc1⟩ ⟨rfl, hK⟩
    have hcc1 := hK.1
    dsimp only at hcc1
    have hb1 := (hK.2 (c + 0) (by omega) (by simp)).trans ((T.get_set _ _ _ _).trans (if_pos rfl))
    refine qM hl rfl (qE hl rfl rfl (qE hl rfl rfl (qA hl rfl (qA hl rfl (nK (rS (sg 2 rfl (qM hl rfl (qB hl rfl rfl rfl (nK (rF hl rfl (by first | rfl | (simp only [dz]; omega) | (simp; done) | (simp; omega)) ?_)))))))))))
    refine rK (kN (sg 7 rfl (qM hl rfl (qC hl rfl (CR.mono (hD _ _) ?_)))))
    rintro v ⟨hh2, cc2⟩ ⟨⟨rfl, hO⟩, hK2⟩
    refine qM hl rfl ?_
    have hcc2 := hK2.1
    dsimp only at hcc2
    have hb2 := (hK2.2 (c + 0) (by omega) (by simp)).trans hb1
    refine qE hl rfl rfl (qE hl rfl rfl (qA hl rfl (qA hl rfl (nK (rS (rB (sg 3 rfl (qM hl rfl (qB hl rfl rfl rfl (qA hl rfl (nK (rF hl rfl (by first | rfl | (simp only [dz]; omega) | (simp; done) | (simp; omega)) ?_))))))))))))
    refine rS (rD [(3, 0)] (by decide +kernel) (by decide +kernel) (n := 6) rfl ?_)
    refine qM hl rfl (qC hl rfl (CR.mono (crcOf_cr H hO (by omega)) ?_))
    rintro v ⟨hh3, cc3⟩ ⟨rfl, hK3⟩
    have hcc3 := hK3.1
    dsimp only at hcc3
    have hb3 := (hK3.2 (c + 0) (by omega) (by simp)).trans hb2
    refine qF hl rfl fa40_2 (qL hl rfl (by first | assumption | (simp only [gs]; rfl) | (simp [gs]; try rfl)) ((p38.1 _ _).trans rfl) ?_)
    refine qB hl rfl rfl rfl (qA hl rfl ?_)
    refine ro_nilp ?_ ?_
    · exact all1 (pair_load hl rfl rfl rfl rfl ((heapAt_old rfl (by omega)).trans hb2) ((p38.1 _ _).trans rfl) rfl (same_int _ _))
    refine kN ?_
    refine rC hl rfl (fun hne => ?_) (fun hne => ?_)
    · try simp only [dz, dy] at hne
      refine sg 2 rfl (qA hl rfl (qA hl rfl (nK (rR (k_bloR (kR (f_2 hl rfl (.inl rfl) rfl rfl ?_)))))))
      have e1 : openR s o sum = .error 21 := by simp only [openR, hu]; rw [if_neg (by omega)]
      rw [e1]
      exact ⟨⟨rfl, by decide⟩, ((((((Keep.refl (Nat.le_refl c)).set (.inl (by omega))).call (hK.base (c0 := c) (by omega)) (by simp)).up (c3 := cc1 + 2 + 7) (by omega)).call hK2 (by simp)).call (hK3.base (c0 := cc2) (by omega)) (by simp)).up (by omega)⟩
    · try simp only [dz, dy] at hne
      refine rK (kO (kN (sg 3 rfl (qM hl rfl (qA hl rfl (qA hl rfl (nK (rR (f_2 hl rfl (.inl rfl) rfl rfl ?_)))))))))
      have e1 : openR s o sum = .ok out := by simp only [openR, hu]; rw [if_pos (by simp at hne; omega)]
      rw [e1]
      exact ⟨⟨rfl, hO, by omega⟩, ((((((Keep.refl (Nat.le_refl c)).set (.inl (by omega))).call (hK.base (c0 := c) (by omega)) (by simp)).up (c3 := cc1 + 2 + 7) (by omega)).call hK2 (by simp)).call (hK3.base (c0 := cc2) (by omega)) (by simp)).up (by omega)⟩
end
section
variable {ov : OvT} (H : OvB ov)
include H
theorem buString_cr {h : Heap} {c b : Nat} {bs : List Nat} {a : Option Addr} (hP : BuR bs b a h.get) (hl9 : bs.length ≤ 9223372036854775807) :
    CR Tryz.prog ov 63 [ptr b] ⟨h, c⟩ (fun v st => v = .string (txt bs) ∧ Keep (own a) h c st) := by
  obtain ⟨h256, p, cp, hp, hb, hS⟩ := hP
  rcases hS with ⟨h1, rfl, h2, rfl⟩ | ⟨x, rfl, rfl, hg, hlen, hpos⟩
  · have : bs = [] := by simpa using h1
    subst this
    refine CR_ov Tryz.func63 rfl H.o63 (v := .string (txt [])) (s' := ⟨h, c⟩) ?_ ⟨rfl, Keep.refl (Nat.le_refl c)⟩
    simp only [strB, hb]; rfl
  · have hl : bs.length = (bs.map bv).length := by simp
    have hby : bytesOf (bs.map bv) = some (bs.map UInt8.ofNat) := by rw [← txt_cells h256]; exact bytesOf_map _
    refine CR_ov Tryz.func63 rfl H.o63 (v := .string (txt bs)) (s' := ⟨h.del x, c⟩) ?_ ⟨rfl, Nat.le_refl c, fun z hz hn => ?_⟩
    · simp only [strB, hb, hg]
      rw [if_pos ⟨trivial, by simp, by omega, hl9⟩, hby]; rfl
    · dsimp only; rw [T.get_del, if_neg (by simpa [own] using hn)]
theorem chk_cr {h : Heap} {c b : Nat} {bs : List Nat} {a : Option Addr} (hP : BuR bs b a h.get) :
    CR Tryz.prog ov 109 [ptr b] ⟨h, c⟩ (fun v st => ∃ cp, st.heap.get b = some ⟨[ptr b, .slice a bs.length cp], 104, 0⟩ ∧ SlR 5 1 (bs.map bv) a bs.length cp st.heap.get ∧ Keep [b] h c st) := by
  obtain ⟨h256, p, cp, hp, hb, hS⟩ := hP
  have hbo := own_ne hS hb (by dsimp only; decide)
  rcases hp with rfl | rfl
  · refine CR_ov Tryz.func109 rfl H.o109 (v := .tuple #[]) (s' := ⟨h.set b ⟨[ptr b, .slice a bs.length cp], 104, 0⟩, c⟩) (by simp only [chkB, hb, if_true]) ⟨cp, (T.get_set _ _ _ _).trans (if_pos rfl), hS.move (fun z hz => ?_), (Keep.refl (Nat.le_refl c)).set (.inr (by simp))⟩
    dsimp only; rw [T.get_set, if_neg (fun e : z = b => hbo (e ▸ hz))]
  · exact CR_ov Tryz.func109 rfl H.o109 (v := .tuple #[]) (s' := ⟨h, c⟩) (by simp only [chkB, hb, if_true]) ⟨cp, hb, hS, Keep.refl (Nat.le_refl c)⟩
theorem buWrite_cr {h : Heap} {c b : Nat} {bs s : List Nat} {a : Option Addr} (hP : BuR bs b a h.get) (hc : b < c ∧ ∀ z ∈ own a, z < c) (hs : ∀ x ∈ s, x < 256) (hl1 : bs.length ≤ 10000000000000) (hl2 : s.length ≤ 1000000000) :
    CR Tryz.prog ov 65 [ptr b, .string (txt s)] ⟨h, c⟩ (fun v st => ∃ a', BuR (bs ++ s) b a' st.heap.get ∧ (∀ z ∈ own a', c ≤ z ∧ z < st.ctr) ∧ Keep (b :: own a) h c st) := by
  have hsz := txt_size s
  have h256 := hP.1
  have hbo : ∀ {g : Nat → Option Blk} {cp : Nat}, g b = some ⟨[ptr b, .slice a bs.length cp], 104, 0⟩ → SlR 5 1 (bs.map bv) a bs.length cp g → b ∉ own a := fun hb hS => own_ne hS hb (by dsimp only; decide)
  refine e_2 Tryz.func65 rfl H.o65 Tryz.ntmps65 (by decide) ?_
  intro env hl
  refine sg 2 rfl (qA hl rfl (qA hl rfl (nK (sg 2 rfl (qM hl rfl (qC hl rfl (CR.mono (chk_cr H hP) ?_)))))))
  rintro v ⟨hh1, cc1⟩ ⟨cp, hb, hS, hK⟩
  refine nK (sg 10 rfl ?_)
  have hcc1 := hK.1
  dsimp only at hcc1 hb hS
  have hbo1 := hbo hb hS
  refine qM hl rfl (qM hl rfl (qN hl rfl (qF hl rfl fa104_1 (qL hl rfl (by first | assumption | (simp only [gs]; rfl) | (simp [gs]; try rfl)) ((p102.1 _ _).trans rfl) ?_))))
  refine qM hl rfl (q_append hl rfl rfl a102 hS (m := s.length) (new := s.map bv) (by have := txt_cells hs; simp only [srcCells, Option.bind_some, Tryz.underlying9, if_true, hsz]; rw [show (txt s).data.toList = s.map UInt8.ofNat by simp [txt], this]) (by simp) (by omega) (by omega) ?_)
  intro a2 cp3 h4 hS4 hO4 hF4
  have hb4 := (hF4 b (by omega) hbo1).trans hb
  refine qN hl rfl (qF hl rfl fa104_1 (qW hl rfl rfl (by first | assumption | (simp only [gs]; rfl) | (simp [gs]; try rfl)) p102 rfl rfl (by first | decide | (simp; done) | (simp; omega)) ?_))
  refine nK (sg 4 rfl (qM hl rfl (qK hl rfl Tryz.underlying9 (qA hl rfl (qA hl rfl (nK (rR (f_2 hl rfl (.inl rfl) rfl rfl ?_))))))))
  have hO5 : ∀ z ∈ own a2, c ≤ z ∧ z ≠ b ∧ z < cc1 + 20 := fun z hz => by have := hO4 z hz; omega
  refine ⟨a2, ⟨fun x hx => ?_, ptr b, cp3, .inr rfl, ?_, ?_⟩, fun z hz => by have := hO4 z hz; dsimp only; omega, ?_⟩
  · rcases List.mem_append.mp hx with q | q; (exact h256 x q); (exact hs x q)
  · dsimp only; rw [T.get_set, if_pos rfl, List.length_append]; rfl
  · rw [List.map_append, List.length_append]; exact hS4.move (fun z hz => by have := (hO5 z hz).2.1; dsimp only; rw [T.get_set, if_neg this])
  · have k1 := (hK.base (c0 := c) (by omega)).weak (W' := b :: own a) (by simp)
    refine (Keep.set (nm := b) ⟨by dsimp only; omega, fun z hz hw => ?_⟩ (.inr (by simp))).up (c2 := cc1 + 10) (by omega)
    simp only [List.mem_cons, not_or] at hw
    exact (hF4 z (by omega) hw.2).trans (k1.2 z hz (by simp [hw.1, hw.2]))
end
structure Un where
  unit : Nat
  due : Nat
  at_ : Nat
  level : Nat
  block : Option Bl
  last : List Nat
  origin : Nat
  gsum : Nat
  total : Nat
  ended : Bool
def Un.new (unit : Nat) : Un := ⟨unit, 0, 0, 0, none, [], 0, 0, 0, false⟩
def Un.mayEnd (u : Un) : Bool := u.ended && u.due == 0 && u.at_ == 0
def Un.letter (u : Un) (l : List Bool) : Except Nat (Un × Nat × Nat) :=
  if l.length < 8 then .error 3
  else if u.at_ < 3 then if num (l.take 8) = [66, 90, 104].getD u.at_ 0 then .ok ({ u with at_ := u.at_ + 1 }, 0, 8) else .error 20
  else if num (l.take 8) < 49 ∨ 57 < num (l.take 8) then .error 20
  else .ok ({ u with level := num (l.take 8) - 48, at_ := 0, total := 0, due := 1 }, 0, 8)
def Un.magic (u : Un) (l : List Bool) : Except Nat (Un × Nat × Nat) :=
  if l.length < 48 then .error 3
  else if num (l.take 48) = 54156738319193 then .ok ({ u with block := some (Bl.new (u.level * u.unit)), due := 2 }, 0, 48)
  else if num (l.take 48) = 25779555029136 then .ok ({ u with due := 3 }, 0, 48)
  else .error 20
def Un.body (u : Un) (l : List Bool) : Except Nat (Un × Nat × Nat) := match u.block with
  | none => .error 99
  | some b => match b.step l with
    | .error e => .error e
    | .ok (b', n) => if !b'.done then .ok ({ u with block := some b' }, 0, n) else .ok ({ u with block := none, last := b'.last, origin := b'.from_, gsum := b'.sum, total := crcCom u.total b'.sum, due := 1 }, 1, n)
def Un.sumS (u : Un) (l : List Bool) : Except Nat (Un × Nat × Nat) :=
  if l.length < 32 then .error 3 else if num (l.take 32) ≠ u.total then .error 21
  else .ok ({ u with due := 0, ended := true }, 2, 32 + (l.length - 32) % 8)
def Un.step (u : Un) (l : List Bool) : Except Nat (Un × Nat × Nat) :=
  if u.due = 0 then u.letter l else if u.due = 1 then u.magic l else if u.due = 2 then u.body l else u.sumS l
def Bl.live (b : Bl) : Prop := b.done = false ∧ ∀ x, b.row = some x → x.waits = false → x.co.done = false
def Un.good (u : Un) : Prop := 24 ≤ u.unit ∧ u.unit ≤ 100000 ∧ u.due ≤ 3 ∧ u.at_ ≤ 3 ∧ (u.due ≠ 0 → 1 ≤ u.level ∧ u.level ≤ 9) ∧ u.total < 4294967296 ∧ (u.due = 2 → ∃ b, u.block = some b ∧ b.live) ∧ (∀ x ∈ u.last, x < 256) ∧ u.last.length ≤ 900000 ∧ u.gsum < 4294967296
def blkR (o : Option Bl) (bv' : Value) (bW : List Nat) (g : Nat → Option Blk) : Prop := match o with
  | none => bv' = .pointer none ∧ bW = []
  | some b => ∃ p, bv' = ptr p ∧ BlR b p bW g
def UnR (u : Un) (b : Nat) (W : List Nat) (g : Nat → Option Blk) : Prop :=
  u.good ∧ ∃ (v : Value) (bW : List Nat), g b = some ⟨[nv u.unit, nv u.due, nv u.at_, nv u.level, v, .string (txt u.last), nv u.origin, uv u.gsum, uv u.total, .bool u.ended, nv 0], 121, 0⟩ ∧ blkR u.block v bW g ∧ W = b :: bW
theorem blkR.move {o : Option Bl} {v : Value} {bW : List Nat} {g g' : Nat → Option Blk} (h : blkR o v bW g) (hg : ∀ z ∈ bW, g' z = g z) : blkR o v bW g' := by
  cases o with
  | none => exact h
  | some b => obtain ⟨p, h1, h2⟩ := h; exact ⟨p, h1, h2.move hg⟩
theorem blkR.kind {o : Option Bl} {v : Value} {bW : List Nat} {g : Nat → Option Blk} (h : blkR o v bW g) : ∀ z ∈ bW, ∃ B, g z = some B ∧ B.elem ∈ [164, 169, 322, 305, 5, 214, 255, 328, 3, 323, 333] := by
  cases o with
  | none => obtain ⟨_, rfl⟩ := h; intro z hz; simp at hz
  | some b => obtain ⟨p, h1, h2⟩ := h; exact h2.kind
theorem UnR.move {u : Un} {b : Nat} {W : List Nat} {g g' : Nat → Option Blk} (h : UnR u b W g) (hg : ∀ z ∈ W, g' z = g z) : UnR u b W g' := by
  obtain ⟨h0, v, bW, h1, h2, rfl⟩ := h
  exact ⟨h0, v, bW, (hg b (by simp)).trans h1, h2.move (fun z hz => hg z (by simp [hz])), rfl⟩
theorem UnR.r_ne {u : Un} {b : Nat} {W : List Nat} {g : Nat → Option Blk} {all : List Bool} {dr at_ r : Nat} (h : UnR u b W g) (hR : BitR all dr at_ (g r)) : r ∉ W := by
  obtain ⟨_, v, bW, h1, h2, rfl⟩ := h
  obtain ⟨s, hs, _⟩ := hR
  simp only [List.mem_cons, not_or]
  exact ⟨blk_ne hs h1 (by dsimp only; decide), kind_ne h2.kind hs (by dsimp only; decide)⟩
def UnPost (h : Heap) (c0 : Nat) (all : List Bool) (dr at_ r b : Nat) (W : List Nat) (u : Un) (V : Nat → Value → Nat → Prop) (res : Except Nat (Un × Nat × Nat)) (v : Value) (st : St) : Prop :=
  (match res with
    | .ok (u', w, n) => V 0 v w ∧ BitR all dr (at_ + n) (st.heap.get r) ∧ ∃ W', UnR u' b W' st.heap.get ∧ ∀ z ∈ W', z ∈ W ∨ c0 ≤ z ∧ z < st.ctr
    | .error e => V e v 0 ∧ e ≠ 0 ∧ (e = 3 → BitR all dr at_ (st.heap.get r) ∧ UnR u b W st.heap.get) ∧ (∃ B, st.heap.get b = some B ∧ B.cells.length = 11) ∧ ∃ k, at_ ≤ k ∧ BitR all dr k (st.heap.get r)) ∧ Keep (r :: W) h c0 st
def V1 (e : Nat) (v : Value) (w : Nat) : Prop := v = nv e ∧ w = 0
def V2 (e : Nat) (v : Value) (w : Nat) : Prop := v = .tuple #[nv w, nv e]
theorem bzh {a : Nat} (h : a < 3) : (⟨#[66, 90, 104]⟩ : ByteArray)[((a : Nat) : Int).toNat]? = some (UInt8.ofNat ([66, 90, 104].getD a 0)) ∧ (UInt8.ofNat ([66, 90, 104].getD a 0)).toNat = [66, 90, 104].getD a 0 ∧ [66, 90, 104].getD a 0 < 256 := by
  rcases (by omega : a = 0 ∨ a = 1 ∨ a = 2) with q | q | q <;> subst q <;> exact ⟨rfl, rfl, by decide⟩
section
variable {ov : OvT} (H : OvH ov)
include H
theorem unLetter_cr {h : Heap} {c0 b r dr at_ : Nat} {all : List Bool} {u : Un} {W : List Nat} (hP : UnR u b W h.get) (hR : BitR all dr at_ (h.get r)) (hc : r < c0 ∧ ∀ z ∈ W, z < c0) (hd : u.due = 0) :
    CR Tryz.prog ov 113 [ptr b, ptr r] ⟨h, c0⟩ (fun v st => UnPost h c0 all dr at_ r b W u V1 (u.letter (all.drop at_)) v st) := by
  have hrW := hP.r_ne hR
  have hP0 := hP
  obtain ⟨⟨g1, g2, g3, g4, g5, g6, g7⟩, bvv, bW, hb, hB, rfl⟩ := id hP
  simp only [List.mem_cons, not_or] at hrW
  have hbW : b ∉ bW := kind_ne hB.kind hb (by dsimp only; decide)
  have hbc := hc.2 b (by simp)
  have hln : (all.drop at_).length = all.length - at_ := List.length_drop
  simp only [Un.letter]
  refine e_2 Tryz.func113 rfl (H _ (by decide)) Tryz.ntmps113 (by decide) ?_
  intro env hl
  refine sg 1 rfl (qA hl rfl (nK (sg 7 rfl (qM hl rfl (qC hl rfl (CR.mono ((get_any H hR (by omega) (by omega) (n := 8))) ?_))))))
  rintro v ⟨hh1, cc1⟩ ⟨e9, w9, rfl, hG, hGK⟩
  have hcc1 : c0 + 1 + 7 ≤ cc1 := hGK.1
  have hb1 := (hGK.2 b (by omega) (by simpa using Ne.symm hrW.1)).trans hb
  have hK1 := (hGK.base (c0 := c0) (by omega)).weak (W' := r :: b :: bW) (by simp)
  refine qM hl rfl (qE hl rfl rfl (qE hl rfl rfl (qA hl rfl (qA hl rfl (nK (rS (rB (sg 3 rfl (qM hl rfl (qB hl rfl rfl rfl (qA hl rfl (nK ?_))))))))))))
  refine rC hl rfl (fun he => ?_) (fun he => ?_)
  · try simp only [dz, dy] at he
    refine sg 2 rfl (qM hl rfl (qA hl rfl (nK (rR (k_bloR (kR (f_1 hl rfl (.inl rfl) rfl ?_)))))))
    rcases hG with ⟨hlt, rfl, _, hR4⟩ | ⟨_, rfl, _, _⟩
    · rw [if_pos (by omega)]
      exact ⟨⟨⟨rfl, rfl⟩, by decide, fun _ => ⟨hR4, hP0.move (fun z hz => hGK.2 z (by have := hc.2 z hz; omega) (by simp; rintro rfl; simp only [List.mem_cons] at hz; rcases hz with q | q; (exact hrW.1 q); (exact hrW.2 q)))⟩, ⟨_, hb1, rfl⟩, at_, Nat.le_refl _, hR4⟩, hK1.up (by omega)⟩
    · simp at he
  · try simp only [dz, dy] at he
    rcases hG with ⟨_, rfl, _, _⟩ | ⟨hle, _, rfl, hR4⟩
    · simp at he
    rw [if_neg (by omega)]
    have e8 : ((all.drop at_).take 8).length = 8 := by rw [List.length_take]; omega
    have hlt8 := num_lt ((all.drop at_).take 8); rw [e8] at hlt8
    have hmk : ∀ (u' : Un) (hf : Heap), u'.good → u'.block = u.block → u'.unit = u.unit → u'.last = u.last → u'.origin = u.origin → u'.gsum = u.gsum → hf.get b = some ⟨[nv u.unit, nv u'.due, nv u'.at_, nv u'.level, bvv, .string (txt u.last), nv u.origin, uv u.gsum, uv u'.total, .bool u'.ended, nv 0], 121, 0⟩ → (∀ z, z ≠ b → hf.get z = hh1.get z) → UnR u' b (b :: bW) hf.get := fun u' hf w1 w2 w3 w4 w5 w6 w7 w8 => ⟨w1, bvv, bW, by rw [w3, w4, w5, w6]; exact w7, by rw [w2]; exact hB.move (fun z hz => (w8 z (fun e => hbW (e ▸ hz))).trans (hGK.2 z (by have := hc.2 z (by simp [hz]); omega) (by simp; rintro rfl; exact hrW.2 hz))), rfl⟩
    refine sg 6 rfl (qM hl rfl (qN hl rfl (qF hl rfl fa121_2 (qL hl rfl (by first | assumption | (simp only [gs, hb1]; rfl) | (simp [gs, hb1]; try rfl)) ((p3.1 _ _).trans rfl) ?_))))
    refine qB hl rfl rfl rfl (qA hl rfl (nK ?_))
    refine rC hl rfl (fun ha3 => ?_) (fun ha3 => ?_)
    · try simp only [dz, dy] at ha3
      obtain ⟨z1, z2, z3⟩ := bzh (a := u.at_) (by omega)
      refine rS (sg 8 rfl (qM hl rfl (qM hl rfl (qN hl rfl (qF hl rfl fa121_2 (qL hl rfl (by first | assumption | (simp only [gs, hb1]; rfl) | (simp [gs, hb1]; try rfl)) ((p3.1 _ _).trans rfl) ?_))))))
      refine qJ hl rfl rfl Tryz.underlying9 (by omega) z1 ?_
      simp only [z2]
      refine qH hl rfl Tryz.underlying5 Tryz.underlying38 (by first | exact wI (by omega) | exact wU (by omega) | exact wB (by omega) | exact wL (by omega) | rfl) ?_
      refine qB hl rfl rfl rfl (nK ?_)
      refine rC hl rfl (fun hne => ?_) (fun hne => ?_)
      · try simp only [dz, dy] at hne
        refine sg 1 rfl (qA hl rfl (nK (rR (kR (k_bloR (kR (f_1 hl rfl (.inl rfl) rfl ?_)))))))
        rw [if_pos (by omega), if_neg (by omega)]
        exact ⟨⟨⟨rfl, rfl⟩, by decide, fun q => absurd q (by decide), ⟨_, hb1, rfl⟩, _, by omega, hR4⟩, hK1.up (by omega)⟩
      · try simp only [dz, dy] at hne
        refine rK (kN (sg 8 rfl (qM hl rfl (qN hl rfl (qF hl rfl fa121_2 (qL hl rfl (by first | assumption | (simp only [gs, hb1]; rfl) | (simp [gs, hb1]; try rfl)) ((p3.1 _ _).trans rfl) ?_))))))
        refine qP hl rfl rfl (by first | exact wI (by omega) | exact wU (by omega) | exact wB (by omega) | exact wL (by omega) | rfl) ?_
        refine qN hl rfl (qF hl rfl fa121_2 (qW hl rfl rfl (by first | assumption | (simp only [gs, hb1]; rfl) | (simp [gs, hb1]; try rfl)) p3 rfl rfl (by first | decide | (simp; done) | (simp; omega)) ?_))
        refine nK (sg 1 rfl (qA hl rfl (nK (rR (k_bloR (kR (f_1 hl rfl (.inl rfl) rfl ?_)))))))
        rw [if_pos (by omega), if_pos (by simp only [bne_eq_false_iff_eq] at hne; omega)]
        refine ⟨⟨⟨rfl, rfl⟩, hR4.move (by dsimp only; rw [T.get_set, if_neg hrW.1]), b :: bW, hmk _ _ ⟨g1, g2, g3, by dsimp only; omega, g5, g6, g7⟩ rfl rfl rfl rfl rfl ?_ (fun z hz => by rw [T.get_set, if_neg hz]), fun z hz => .inl hz⟩, (hK1.set (nm := b) (.inr (by simp))).up (by omega)⟩
        rw [T.get_set, if_pos rfl]; rfl
    · try simp only [dz, dy] at ha3
      refine sg 7 rfl (qM hl rfl (qB hl rfl rfl rfl (qM hl rfl ?_)))
      refine q_case hl (rfl : lk _ _ 40 = _) (fun hlo => ?_) (fun hlo => ?_)
      · have hlo_ := hlo
        try simp only [dz] at hlo_
        refine qS hl rfl rfl rfl rfl (by rw [hlo]; decide) ?_
        refine qS hl rfl rfl rfl rfl (by rw [hlo]; decide) ?_
        refine qQ hl rfl rfl rfl (if_pos hlo) (qA hl rfl (nK (rT hl rfl (by rfl) ?_)))
        refine sg 1 rfl (qA hl rfl (nK (rR (k_bloR (kR (f_1 hl rfl (.inl rfl) rfl ?_))))))
        rw [if_neg (by omega), if_pos (by omega)]
        exact ⟨⟨⟨rfl, rfl⟩, by decide, fun q => absurd q (by decide), ⟨_, hb1, rfl⟩, _, by omega, hR4⟩, hK1.up (by omega)⟩
      · have hlo_ := hlo
        try simp only [dz] at hlo_
        refine qG hl rfl rfl rfl hlo (qM hl rfl (qG hl rfl rfl rfl hlo (qB hl rfl rfl rfl (qQ hl rfl rfl rfl (if_neg (by rw [hlo]; decide)) ?_))))
        refine qA hl rfl (nK ?_)
        refine rC hl rfl (fun hhi => ?_) (fun hhi => ?_)
        · try simp only [dz, dy] at hhi
          refine sg 1 rfl (qA hl rfl (nK (rR (k_bloR (kR (f_1 hl rfl (.inl rfl) rfl ?_))))))
          rw [if_neg (by omega), if_pos (by omega)]
          exact ⟨⟨⟨rfl, rfl⟩, by decide, fun q => absurd q (by decide), ⟨_, hb1, rfl⟩, _, by omega, hR4⟩, hK1.up (by omega)⟩
        · try simp only [dz, dy] at hhi
          refine rK (kO (kN (sg 7 rfl (qM hl rfl (qM hl rfl (q_sub hl rfl rfl (m := ((num ((all.drop at_).take 8) - 48 : Nat) : Int)) (by rw [wrapU32 (by omega) (by omega)]; omega) ?_))))))
          refine qH hl rfl Tryz.underlying38 Tryz.underlying3 (by first | exact wI (by omega) | exact wU (by omega) | exact wB (by omega) | exact wL (by omega) | rfl) ?_
          refine qN hl rfl (qF hl rfl fa121_3 (qW hl rfl rfl (by first | assumption | (simp only [gs, hb1]; rfl) | (simp [gs, hb1]; try rfl)) p3 rfl rfl (by first | decide | (simp; done) | (simp; omega)) ?_))
          refine nK (sg 4 rfl (qM hl rfl (qN hl rfl (qF hl rfl fa121_2 (qW hl rfl rfl (by first | assumption | (simp only [gs, hb1]; rfl) | (simp [gs, hb1]; try rfl)) p3 rfl rfl (by first | decide | (simp; done) | (simp; omega)) ?_)))))
          refine nK (sg 4 rfl (qM hl rfl (qN hl rfl (qF hl rfl fa121_6 (qW hl rfl rfl (by first | assumption | (simp only [gs, hb1]; rfl) | (simp [gs, hb1]; try rfl)) p38 rfl rfl (by first | decide | (simp; done) | (simp; omega)) ?_)))))
          refine nK (sg 4 rfl (qM hl rfl (qN hl rfl (qF hl rfl fa121_1 (qW hl rfl rfl (by first | assumption | (simp only [gs, hb1]; rfl) | (simp [gs, hb1]; try rfl)) p118 rfl rfl (by first | decide | (simp; done) | (simp; omega)) ?_)))))
          refine nK (sg 1 rfl (qA hl rfl (nK (rR (f_1 hl rfl (.inl rfl) rfl ?_)))))
          rw [if_neg (by omega), if_neg (by omega)]
          refine ⟨⟨⟨rfl, rfl⟩, hR4.move (by dsimp only; rw [T.get_set, if_neg hrW.1, T.get_set, if_neg hrW.1, T.get_set, if_neg hrW.1, T.get_set, if_neg hrW.1]), b :: bW, hmk _ _ ⟨g1, g2, by dsimp only; omega, by dsimp only; omega, fun _ => by dsimp only; omega, by dsimp only; omega, fun q => absurd (show 1 = 2 from q) (by decide), g7.2⟩ rfl rfl rfl rfl rfl ?_ (fun z hz => by rw [T.get_set, if_neg hz, T.get_set, if_neg hz, T.get_set, if_neg hz, T.get_set, if_neg hz]), fun z hz => .inl hz⟩, ((((hK1.set (nm := b) (.inr (by simp))).set (nm := b) (.inr (by simp))).set (nm := b) (.inr (by simp))).set (nm := b) (.inr (by simp))).up (by omega)⟩
          rw [T.get_set, if_pos rfl]; rfl
omit H in
theorem num48 {l : List Bool} (h : 48 ≤ l.length) : num (l.take 48) = num (l.take 24) * 16777216 + num ((l.drop 24).take 24) := by
  have e : l.take 48 = l.take 24 ++ (l.drop 24).take 24 := List.take_add (i := 24) (j := 24)
  have e2 : ((l.drop 24).take 24).length = 24 := by rw [List.length_take, List.length_drop]; omega
  rw [e, num_append, e2]
omit H in
theorem orU64 {P : Program} {t : TypeId} (a b : Nat) (ha : a < 16777216) (hb : b < 16777216) : evBin P .or t (.int .u64 ((a * 16777216 : Nat) : Int)) (.int .u64 (b : Int)) = some (.int .u64 ((a * 16777216 + b : Nat) : Int)) := by
  obtain ⟨x, hx⟩ : ∃ x, x = a * 16777216 := ⟨_, rfl⟩
  rw [← hx]
  have h3 : IntKind.u64.wrap ((BitVec.ofInt 64 (x : Int) ||| BitVec.ofInt 64 (b : Int)).toNat) = ((x + b : Nat) : Int) := by
    have e1 : BitVec.ofInt 64 (x : Int) = BitVec.ofNat 64 x := rfl
    have e2 : BitVec.ofInt 64 (b : Int) = BitVec.ofNat 64 b := rfl
    have e3 : (BitVec.ofNat 64 x ||| BitVec.ofNat 64 b).toNat = x + b := by
      rw [BitVec.toNat_or, BitVec.toNat_ofNat, BitVec.toNat_ofNat, Nat.mod_eq_of_lt (by omega), Nat.mod_eq_of_lt (by omega)]
      have := Nat.shiftLeft_add_eq_or_of_lt (i := 24) (b := b) (by omega) a
      rw [Nat.shiftLeft_eq] at this; rw [hx]; exact this.symm
    rw [e1, e2, e3]; exact wrapU64 (by omega) (by omega)
  simp only [evBin, if_true]; exact congrArg (fun z => some (Value.int .u64 z)) h3
omit H in
theorem shlU64 {P : Program} {t : TypeId} (a : Nat) (k2 : IntKind) (ha : a < 16777216) : evBin P .shl t (.int .u64 (a : Int)) (.int k2 24) = some (.int .u64 ((a * 16777216 : Nat) : Int)) := by
  have h1 : ¬ (24 : Int) < 0 := by omega
  have h2 : min (24 : Int).toNat IntKind.u64.bits = 24 := by decide
  simp only [evBin, if_neg h1, h2]
  have : (a : Int) * 2 ^ 24 = ((a * 16777216 : Nat) : Int) := by simp
  rw [this, wrapU64 (by omega) (by omega)]
theorem unMagic_cr {h : Heap} {c0 b r dr at_ : Nat} {all : List Bool} {u : Un} {W : List Nat} (hP : UnR u b W h.get) (hR : BitR all dr at_ (h.get r)) (hc : r < c0 ∧ ∀ z ∈ W, z < c0) (hd : u.due = 1) :
    CR Tryz.prog ov 114 [ptr b, ptr r] ⟨h, c0⟩ (fun v st => UnPost h c0 all dr at_ r b W u V1 (u.magic (all.drop at_)) v st) := by
  have hrW := hP.r_ne hR
  have hP0 := hP
  obtain ⟨⟨g1, g2, g3, g4, g5, g6, g7⟩, bvv, bW, hb, hB, rfl⟩ := id hP
  simp only [List.mem_cons, not_or] at hrW
  have hbW : b ∉ bW := kind_ne hB.kind hb (by dsimp only; decide)
  have hbc := hc.2 b (by simp)
  have hln : (all.drop at_).length = all.length - at_ := List.length_drop
  have hlv := g5 (by omega)
  simp only [Un.magic]
  by_cases h48 : (all.drop at_).length < 48
  · rw [if_pos h48]
    refine e_2 Tryz.func114 rfl (H _ (by decide)) Tryz.ntmps114 (by decide) ?_
    intro env hl
    refine sg 1 rfl (qA hl rfl (nK (rS (sg 3 rfl (qM hl rfl (qC hl rfl (CR.mono (left_cr H hR (by omega)) ?_)))))))
    rintro v ⟨hh1, cc1⟩ ⟨rfl, rfl, hk⟩
    try dsimp only at hk
    refine qB hl rfl rfl rfl (nK (rT hl rfl (by simp; omega) ?_))
    refine sg 1 rfl (qA hl rfl (nK (rR (kR (f_1 hl rfl (.inl rfl) rfl ?_)))))
    exact ⟨⟨⟨rfl, rfl⟩, by decide, fun _ => ⟨hR, hP0⟩, ⟨_, hb, rfl⟩, at_, Nat.le_refl _, hR⟩, Keep.refl (by omega)⟩
  · rw [if_neg h48]
    have e24a : ((all.drop at_).take 24).length = 24 := by rw [List.length_take]; omega
    have e24 : (((all.drop at_).drop 24).take 24).length = 24 := by rw [List.length_take, List.length_drop]; omega
    have l24a := num_lt ((all.drop at_).take 24); rw [e24a] at l24a
    have l24 := num_lt (((all.drop at_).drop 24).take 24); rw [e24] at l24
    have d24 : all.drop (at_ + 24) = (all.drop at_).drop 24 := by rw [List.drop_drop]
    rw [num48 (by omega)]
    refine e_2 Tryz.func114 rfl (H _ (by decide)) Tryz.ntmps114 (by decide) ?_
    intro env hl
    refine sg 1 rfl (qA hl rfl (nK (rS (sg 3 rfl (qM hl rfl (qC hl rfl (CR.mono (left_cr H hR (by omega)) ?_)))))))
    rintro v ⟨hh1, cc1⟩ ⟨rfl, rfl, hk⟩
    try dsimp only at hk
    refine qB hl rfl rfl rfl (nK (rF hl rfl (by simp; omega) ?_))
    refine rK (kN (sg 7 rfl (qM hl rfl (qC hl rfl (CR.mono (get_cr H hR (by omega) (by omega) (by omega) (n := 24)) ?_)))))
    rintro v ⟨hh2, cc2⟩ ⟨rfl, hR1, hK1⟩
    refine qM hl rfl (qE hl rfl rfl (qE hl rfl rfl (qA hl rfl (qA hl rfl (nK (sg 7 rfl ?_))))))
    have hcc1 := hK1.1
    dsimp only at hcc1 hR1
    refine qM hl rfl (qC hl rfl (CR.mono (get_cr H hR1 (by omega) (by omega) (by omega) (n := 24)) ?_))
    rintro v ⟨hh3, cc3⟩ ⟨rfl, hR2, hK2⟩
    refine qM hl rfl (qE hl rfl rfl (qE hl rfl rfl (qA hl rfl (qA hl rfl (nK (rS (sg 6 rfl ?_)))))))
    have hcc2 := hK2.1
    dsimp only at hcc2 hR2
    simp only [d24]
    have hb5 := ((hK2.2 b (by omega) (by simpa using Ne.symm hrW.1)).trans (hK1.2 b (by omega) (by simpa using Ne.symm hrW.1))).trans hb
    have kk := (((hK1.base (c0 := c0) (by omega)).up (c3 := cc2 + 7) (by omega)).call hK2 (fun x hx => .inr hx)).weak (W' := r :: b :: bW) (by simp)
    have hB2 := hB.move (g' := hh3.get) (fun z hz => (hK2.2 z (by have := hc.2 z (by simp [hz]); omega) (by simp; rintro rfl; exact hrW.2 hz)).trans (hK1.2 z (by have := hc.2 z (by simp [hz]); omega) (by simp; rintro rfl; exact hrW.2 hz)))
    have hlu : u.level * u.unit ≤ 9 * 100000 := Nat.mul_le_mul hlv.2 g2
    have hlu2 : 1 * 24 ≤ u.level * u.unit := Nat.mul_le_mul hlv.1 g1
    refine qM hl rfl (qH hl rfl Tryz.underlying38 Tryz.underlying218 (by first | exact wI (by omega) | exact wU (by omega) | exact wB (by omega) | exact wL (by omega) | rfl) ?_)
    refine qB hl rfl rfl (shlU64 _ _ (by omega)) ?_
    refine qM hl rfl (qH hl rfl Tryz.underlying38 Tryz.underlying218 (by first | exact wI (by omega) | exact wU (by omega) | exact wB (by omega) | exact wL (by omega) | rfl) ?_)
    refine qB hl rfl rfl (orU64 _ _ (by omega) (by omega)) ?_
    refine nK (rB (sg 2 rfl (qB hl rfl rfl rfl (qA hl rfl (nK ?_)))))
    refine rC hl rfl (fun hm => ?_) (fun hm => ?_)
    · try simp only [dz, dy] at hm
      refine rS (rD [] (by decide +kernel) (by decide +kernel) (n := 15) rfl ?_)
      refine qM hl rfl (qN hl rfl (qF hl rfl fa121_3 (qL hl rfl (by first | assumption | (simp only [gs, hb5]; rfl) | (simp [gs, hb5]; try rfl)) ((p3.1 _ _).trans rfl) ?_)))
      refine qM hl rfl (qN hl rfl (qF hl rfl fa121_0 (qL hl rfl (by first | assumption | (simp only [gs, hb5]; rfl) | (simp [gs, hb5]; try rfl)) ((p3.1 _ _).trans rfl) ?_)))
      refine q_mul hl rfl rfl (m := ((u.level * u.unit : Nat) : Int)) (by rw [← Int.natCast_mul, wrapI (by omega) (by omega)]) ?_
      refine qC hl rfl (CR.mono (blNew_cr H (room := u.level * u.unit) ⟨by omega, by omega⟩) ?_)
      rintro v ⟨hh4, cc4⟩ ⟨p, rfl, hBl, hp1, hp2, hK4⟩
      refine qM hl rfl (qE hl rfl rfl (qE hl rfl rfl (qA hl rfl (qA hl rfl (ro_nild (kN (sg 5 rfl ?_)))))))
      have hcc4 := hK4.1
      dsimp only at hcc4 hBl hp2
      have hb5 := (hK4.2 b (by omega) (by simp)).trans hb5
      refine qM hl rfl (qM hl rfl (qN hl rfl (qF hl rfl fa121_4 (qW hl rfl rfl (by first | assumption | (simp only [gs, hb5]; rfl) | (simp [gs, hb5]; try rfl)) p119 rfl rfl (by first | decide | (simp; done) | (simp; omega)) ?_))))
      refine nK (sg 4 rfl (qM hl rfl (qN hl rfl (qF hl rfl fa121_1 (qW hl rfl rfl (by first | assumption | (simp only [gs, hb5]; rfl) | (simp [gs, hb5]; try rfl)) p118 rfl rfl (by first | decide | (simp; done) | (simp; omega)) ?_)))))
      refine nK (sg 2 rfl (qM hl rfl (qA hl rfl (nK (rR (k_bloR (kR (f_1 hl rfl (.inl rfl) rfl ?_))))))))
      have hpb : p ≠ b := by omega
      rw [if_pos (by omega)]
      refine ⟨⟨⟨rfl, rfl⟩, hR2.move (by dsimp only; rw [T.get_set, if_neg hrW.1, T.get_set, if_neg hrW.1]; exact hK4.2 r (by omega) (by simp)), b :: [p], ⟨⟨g1, g2, by dsimp only; omega, g4, fun _ => hlv, g6, fun _ => ⟨_, rfl, rfl, fun x hx => by cases hx⟩, g7.2⟩, ptr p, [p], ?_, ⟨p, rfl, hBl.move (fun z hz => ?_)⟩, rfl⟩, fun z hz => ?_⟩, ?_⟩
      · dsimp only; rw [T.get_set, if_pos rfl]; rfl
      · simp only [List.mem_singleton] at hz; subst hz; dsimp only; rw [T.get_set, if_neg hpb, T.get_set, if_neg hpb]
      · simp only [List.mem_cons, List.not_mem_nil, or_false] at hz; rcases hz with q | q
        · left; simp [q]
        · right; dsimp only; omega
      · have k2 := (kk.up (c3 := cc3 + 6 + 2 + 15) (by omega)).call hK4 (by simp)
        exact ((k2.set (nm := b) (.inr (by simp))).set (nm := b) (.inr (by simp))).up (by omega)
    · try simp only [dz, dy] at hm
      refine sg 2 rfl (qB hl rfl rfl rfl (qA hl rfl (nK ?_)))
      refine rC hl rfl (fun hm2 => ?_) (fun hm2 => ?_)
      · try simp only [dz, dy] at hm2
        refine sg 4 rfl (qM hl rfl (qN hl rfl (qF hl rfl fa121_1 (qW hl rfl rfl (by first | assumption | (simp only [gs, hb5]; rfl) | (simp [gs, hb5]; try rfl)) p118 rfl rfl (by first | decide | (simp; done) | (simp; omega)) ?_))))
        refine nK (sg 1 rfl (qA hl rfl (nK (rR (k_bloR (kR (f_1 hl rfl (.inl rfl) rfl ?_)))))))
        rw [if_neg (by omega), if_pos (by omega)]
        refine ⟨⟨⟨rfl, rfl⟩, hR2.move (by dsimp only; rw [T.get_set, if_neg hrW.1]), b :: bW, ⟨⟨g1, g2, by dsimp only; omega, g4, fun _ => hlv, g6, fun q => absurd (show 3 = 2 from q) (by decide), g7.2⟩, bvv, bW, ?_, hB2.move (fun z hz => by dsimp only; rw [T.get_set, if_neg (fun e : z = b => hbW (e ▸ hz))]), rfl⟩, fun z hz => .inl hz⟩, (kk.set (nm := b) (.inr (by simp))).up (by omega)⟩
        dsimp only; rw [T.get_set, if_pos rfl]; rfl
      · try simp only [dz, dy] at hm2
        refine rK (kO (kN (sg 1 rfl (qA hl rfl (nK (rR (f_1 hl rfl (.inl rfl) rfl ?_)))))))
        rw [if_neg (by omega), if_neg (by omega)]
        exact ⟨⟨⟨rfl, rfl⟩, by decide, fun q => absurd q (by decide), ⟨_, hb5, rfl⟩, _, by omega, hR2⟩, kk.up (by omega)⟩
end
theorem Bl.step_live {b b' : Bl} {l : List Bool} {n : Nat} (h : b.step l = .ok (b', n)) (hd : b.done = false) : b'.done = false → b'.live := by
  intro hd'
  refine ⟨hd', fun x hx hw => ?_⟩
  simp only [Bl.step] at h
  cases hg : b.go l with
  | error e => rw [hg] at h; cases h
  | ok y =>
    obtain ⟨b1, n1⟩ := y
    rw [hg] at h
    simp only [Bl.fin] at h
    cases hr : b1.row with
    | none => rw [hr] at h; cases h; rw [hr] at hx; cases hx
    | some y =>
      rw [hr] at h
      simp only at h
      split at h
      · rename_i hc
        cases h
        rw [hr] at hx; cases hx
        rw [hw] at hc; simpa using hc
      · split at h
        · cases h
        · cases h; cases hd'
theorem Bl.fin_fields {b b' : Bl} (h : b.fin = .ok b') : b'.last = b.last ∧ b'.from_ = b.from_ ∧ b'.sum = b.sum ∧ b'.row = b.row ∧ b'.room = b.room ∧ (b'.done = true → b.done = true ∨ b.from_ < b.last.length) := by
  simp only [Bl.fin] at h
  split at h
  · cases h; exact ⟨rfl, rfl, rfl, rfl, rfl, fun q => .inl q⟩
  · split at h
    · cases h; exact ⟨rfl, rfl, rfl, rfl, rfl, fun q => .inl q⟩
    · split at h
      · cases h
      · cases h; exact ⟨rfl, rfl, rfl, rfl, rfl, fun _ => .inr (by omega)⟩
theorem Bl.go_done {b b' : Bl} {l : List Bool} {n : Nat} (h : b.go l = .ok (b', n)) : b'.done = b.done := by
  simp only [Bl.go] at h
  split at h
  · split at h
    · cases h
    · split at h <;> cases h; rfl
  · split at h
    · cases hu : usedR l with
      | error e => rw [hu] at h; cases h
      | ok y => rw [hu] at h; cases h; rfl
    · split at h
      · cases h; rfl
      · rename_i x _ _
        cases hu : x.step l with
        | error e => rw [hu] at h; cases h
        | ok y => rw [hu] at h; cases h; rfl
theorem Bl.step_done {b b' : Bl} {l : List Bool} {n : Nat} (h : b.step l = .ok (b', n)) (hd : b.done = false) (hd' : b'.done = true) : b'.from_ < b'.last.length := by
  simp only [Bl.step] at h
  cases hg : b.go l with
  | error e => rw [hg] at h; cases h
  | ok y =>
    obtain ⟨b1, n1⟩ := y
    rw [hg] at h
    simp only at h
    cases hf : b1.fin with
    | error e => rw [hf] at h; cases h
    | ok b2 =>
      rw [hf] at h; cases h
      obtain ⟨f1, f2, f3, f4, f5, f6⟩ := Bl.fin_fields hf
      rcases f6 hd' with q | q
      · rw [Bl.go_done hg, hd] at q; cases q
      · rw [f1, f2]; exact q
theorem BlR.last_le {b : Bl} {p : Nat} {W : List Nat} {g : Nat → Option Blk} (h : BlR b p W g) (hf : b.from_ < b.last.length) : b.last.length ≤ 900000 := by
  obtain ⟨⟨g1, g2, g3, g4, g5, g6, g7, g8⟩, la, cp, rv, rW, h1, h2, h3, h4, rfl⟩ := h
  cases hr : b.row with
  | none => rw [g7 hr]; simp
  | some x =>
    obtain ⟨k1, k2⟩ := g8 x hr
    rw [hr] at h3
    obtain ⟨rb, _, _, _, _, _, _, _, _, _, hZ, _⟩ := h3
    have := hZ.1.2.2.2.1
    omega
section
variable {ov : OvT} (H : OvH ov)
include H
theorem unBody_cr {h : Heap} {c0 b r dr at_ : Nat} {all : List Bool} {u : Un} {W : List Nat} (hP : UnR u b W h.get) (hR : BitR all dr at_ (h.get r)) (hc : r < c0 ∧ ∀ z ∈ W, z < c0) (hd : u.due = 2) :
    CR Tryz.prog ov 115 [ptr b, ptr r] ⟨h, c0⟩ (fun v st => UnPost h c0 all dr at_ r b W u V2 (u.body (all.drop at_)) v st) := by
  have hrW := hP.r_ne hR
  have hP0 := hP
  obtain ⟨⟨g1, g2, g3, g4, g5, g6, g7⟩, bvv, bW, hb, hB, rfl⟩ := id hP
  obtain ⟨bl, hbl, hlive⟩ := g7.1 hd
  rw [hbl] at hB
  obtain ⟨p, rfl, hBl⟩ := hB
  simp only [List.mem_cons, not_or] at hrW
  have hbW : b ∉ bW := kind_ne hBl.kind hb (by dsimp only; decide)
  have hbc := hc.2 b (by simp)
  have hH := fun c' (q : c0 ≤ c') => blStep_cr H (c0 := c') hBl hR ⟨by omega, fun z hz => by have := hc.2 z (by simp [hz]); omega⟩ hlive.2 hlive.1
  simp only [Un.body, hbl]
  have hsub : ∀ z ∈ r :: bW, z ∈ r :: b :: bW := by intro z hz; simp only [List.mem_cons] at hz ⊢; rcases hz with q | q <;> simp [q]
  cases hs : bl.step (all.drop at_) with
  | error e =>
    simp only [hs, BlPost] at hH
    refine e_2 Tryz.func115 rfl (H _ (by decide)) Tryz.ntmps115 (by decide) ?_
    intro env hl
    refine sg 2 rfl (qA hl rfl (qA hl rfl (nK (sg 7 rfl (qM hl rfl (qN hl rfl (qF hl rfl fa121_4 (qL hl rfl (by assumption) ((p119.1 _ _).trans rfl) ?_))))))))
    refine qM hl rfl (qC hl rfl (CR.mono (hH _ (by omega)) ?_))
    rintro v ⟨hh1, cc1⟩ ⟨⟨rfl, he0, hsh, _, k, hk3, hR2⟩, hK⟩
    have hne0 : ((e : Int) != 0) = true := by simp; omega
    have hb1 := (hK.2 b (by omega) (by simp [Ne.symm hrW.1, hbW])).trans hb
    refine qA hl rfl (nK (rS (sg 10 rfl (qM hl rfl (qB hl rfl rfl rfl (qM hl rfl (qS hl rfl rfl rfl rfl (by rw [hne0]; decide) ?_)))))))
    refine qS hl rfl rfl rfl rfl (by rw [hne0]; decide) ?_
    refine qS hl rfl rfl rfl rfl (by rw [hne0]; decide) ?_
    refine qS hl rfl rfl rfl rfl (by rw [hne0]; decide) ?_
    refine q_skipW hl rfl rfl rfl rfl (by rw [hne0]; decide) ?_
    refine qS hl rfl rfl rfl rfl (by rw [hne0]; decide) ?_
    refine qQ hl rfl rfl rfl (if_pos hne0) (nK (rT hl rfl (by rfl) ?_))
    refine sg 3 rfl (qM hl rfl (qA hl rfl (qA hl rfl (nK (rR (kR (f_2 hl rfl (.inl rfl) rfl rfl ?_)))))))
    refine ⟨⟨rfl, he0, fun q => ⟨(hsh q).1, ⟨g1, g2, g3, g4, g5, g6, g7⟩, ptr p, bW, hb1, by rw [hbl]; exact ⟨p, rfl, (hsh q).2⟩, rfl⟩, ⟨_, hb1, rfl⟩, k, hk3, hR2⟩, ((hK.base (by omega)).weak hsub).up (by omega)⟩
  | ok y =>
    obtain ⟨b', n⟩ := y
    simp only [hs, BlPost] at hH
    by_cases hdn : b'.done = true
    · have hfl := Bl.step_done hs hlive.1 hdn
      simp only [hdn, Bool.not_true, Bool.false_eq_true, if_false]
      refine e_2 Tryz.func115 rfl (H _ (by decide)) Tryz.ntmps115 (by decide) ?_
      intro env hl
      refine sg 2 rfl (qA hl rfl (qA hl rfl (nK (sg 7 rfl (qM hl rfl (qN hl rfl (qF hl rfl fa121_4 (qL hl rfl (by first | assumption | (simp only [gs, hb3]; rfl) | (simp [gs, hb3]; try rfl)) ((p119.1 _ _).trans rfl) ?_))))))))
      refine qM hl rfl (qC hl rfl (CR.mono (hH _ (by omega)) ?_))
      rintro v ⟨hh1, cc1⟩ ⟨⟨rfl, hR2, W', hB2, hW2⟩, hK⟩
      refine qA hl rfl (nK (rS (sg 10 rfl ?_)))
      have hb3 := (hK.2 b (by omega) (by simp [Ne.symm hrW.1, hbW])).trans hb
      have hcc1 := hK.1
      dsimp only at hcc1 hR2 hB2 hW2
      refine qM hl rfl (qB hl rfl rfl rfl (qM hl rfl (qG hl rfl rfl rfl rfl (qM hl rfl (qG hl rfl rfl rfl rfl (qN hl rfl (qG hl rfl rfl rfl rfl (qF hl rfl fa121_4 (qG hl rfl rfl rfl rfl (qL hl rfl (by first | assumption | (simp only [gs, hb3]; rfl) | (simp [gs, hb3]; try rfl)) ((p119.1 _ _).trans rfl) ?_))))))))))
      refine qG hl rfl rfl rfl rfl (qC hl rfl (CR.mono (blDone_cr H hB2) ?_))
      rintro v ⟨hh2, cc2⟩ ⟨rfl, rfl, hk⟩
      try dsimp only at hk
      refine qG hl rfl rfl rfl rfl (q_un hl rfl rfl (qQ hl rfl rfl rfl (rfl) (nK (rF hl rfl (by simp [hdn]) ?_))))
      refine rK (kN (sg 9 rfl (qM hl rfl (qM hl rfl (qN hl rfl (qF hl rfl fa121_4 (qL hl rfl (by first | assumption | (simp only [gs, hb3]; rfl) | (simp [gs, hb3]; try rfl)) ((p119.1 _ _).trans rfl) ?_)))))))
      refine qC hl rfl (CR.mono (blGot_cr H hB2 (fun z hz => by rcases hW2 z hz with q | q; (have := hc.2 z (by simp [q]); omega); omega) hdn) ?_)
      rintro v ⟨hh3, cc3⟩ ⟨rfl, hK3⟩
      have hb3 := (hK3.2 b (by omega) (by simp)).trans hb3
      have hcc3 := hK3.1
      dsimp only at hcc3
      refine qN hl rfl (qF hl rfl fa121_5 (qV hl rfl rfl (by first | assumption | (simp only [gs, hb3]; rfl) | (simp [gs, hb3]; try rfl)) p40 rfl rfl (by simp) ?_))
      refine nK (sg 4 rfl (qM hl rfl (qN hl rfl (qF hl rfl fa121_4 (qW hl rfl rfl (by first | assumption | (simp only [gs, hb3]; rfl) | (simp [gs, hb3]; try rfl)) p119 rfl rfl (by simp [setCells, Value.cells]) ?_)))))
      refine nK (rS (rD [] (by decide +kernel) (by decide +kernel) (n := 14) rfl ?_))
      refine qM hl rfl (qM hl rfl (qN hl rfl (qF hl rfl fa121_6 (qL hl rfl (by first | assumption | (simp only [gs, hb3]; rfl) | (simp [gs, hb3]; try rfl)) ((p38.1 _ _).trans rfl) ?_))))
      refine qM hl rfl (qN hl rfl (qF hl rfl fa121_5 (qF hl rfl fa40_2 (qL hl rfl (by first | assumption | (simp only [gs, hb3]; rfl) | (simp [gs, hb3]; try rfl)) ((p38.1 _ _).trans rfl) ?_))))
      refine qC hl rfl (CR.mono (combine_cr H g6 hB2.1.2.2.2.1) ?_)
      rintro v ⟨hh4, cc4⟩ ⟨rfl, rfl, hk⟩
      try dsimp only at hk
      refine qN hl rfl (qF hl rfl fa121_6 (qW hl rfl rfl (by first | assumption | (simp only [gs, hb3]; rfl) | (simp [gs, hb3]; try rfl)) p38 rfl rfl (by simp [setCells, Value.cells]) ?_))
      refine ro_nild (kN (sg 4 rfl (qM hl rfl (qN hl rfl (qF hl rfl fa121_1 (qW hl rfl rfl (by first | assumption | (simp only [gs, hb3]; rfl) | (simp [gs, hb3]; try rfl)) p118 rfl rfl (by simp [setCells, Value.cells]) ?_))))))
      refine nK (sg 2 rfl (qA hl rfl (qA hl rfl (nK (rR (f_2 hl rfl (.inl rfl) rfl rfl ?_))))))
      refine ⟨⟨rfl, hR2.move (by dsimp only; rw [T.get_set, if_neg hrW.1, T.get_set, if_neg hrW.1, T.get_set, if_neg hrW.1, T.get_set, if_neg hrW.1]; exact hK3.2 r (by omega) (by simp)), [b], ⟨⟨g1, g2, by dsimp only; omega, g4, fun _ => g5 (by omega), Nat.xor_lt_two_pow (n := 32) (Nat.xor_lt_two_pow (n := 32) (by omega) (by omega)) hB2.1.2.2.2.1, fun q => absurd (show 1 = 2 from q) (by decide), hB2.1.2.2.2.2.1, hB2.last_le hfl, hB2.1.2.2.2.1⟩, .pointer none, [], ?_, ⟨rfl, rfl⟩, rfl⟩, fun z hz => .inl (by simp only [List.mem_singleton] at hz; simp [hz])⟩, ?_⟩
      · dsimp only; rw [T.get_set, if_pos rfl]; rfl
      · have k1 := (((hK.base (c0 := c0) (by omega)).weak hsub).up (c3 := cc2 + 9) (by omega)).call hK3 (by simp)
        exact ((((k1.set (nm := b) (.inr (by simp))).set (nm := b) (.inr (by simp))).set (nm := b) (.inr (by simp))).set (nm := b) (.inr (by simp))).up (by omega)
    · have hdn' : b'.done = false := by simpa using hdn
      have hlv := Bl.step_live hs hlive.1 hdn'
      simp only [hdn', Bool.not_false, if_true]
      refine e_2 Tryz.func115 rfl (H _ (by decide)) Tryz.ntmps115 (by decide) ?_
      intro env hl
      refine sg 2 rfl (qA hl rfl (qA hl rfl (nK (sg 7 rfl (qM hl rfl (qN hl rfl (qF hl rfl fa121_4 (qL hl rfl (by assumption) ((p119.1 _ _).trans rfl) ?_))))))))
      refine qM hl rfl (qC hl rfl (CR.mono (hH _ (by omega)) ?_))
      rintro v ⟨hh1, cc1⟩ ⟨⟨rfl, hR2, W', hB2, hW2⟩, hK⟩
      refine qA hl rfl (nK (rS (sg 10 rfl ?_)))
      have hb1 := (hK.2 b (by omega) (by simp [Ne.symm hrW.1, hbW])).trans hb
      refine qM hl rfl (qB hl rfl rfl rfl (qM hl rfl (qG hl rfl rfl rfl rfl (qM hl rfl (qG hl rfl rfl rfl rfl (qN hl rfl (qG hl rfl rfl rfl rfl (qF hl rfl fa121_4 (qG hl rfl rfl rfl rfl (qL hl rfl (by assumption) ((p119.1 _ _).trans rfl) ?_))))))))))
      refine qG hl rfl rfl rfl rfl (qC hl rfl (CR.mono (blDone_cr H hB2) ?_))
      rintro v ⟨hh2, cc2⟩ ⟨rfl, rfl, hk⟩
      try dsimp only at hk
      refine qG hl rfl rfl rfl rfl (q_un hl rfl rfl (qQ hl rfl rfl rfl (rfl) (nK (rT hl rfl (by simp [hdn']) ?_))))
      refine sg 3 rfl (qM hl rfl (qA hl rfl (qA hl rfl (nK (rR (kR (f_2 hl rfl (.inl rfl) rfl rfl ?_)))))))
      refine ⟨⟨rfl, hR2, b :: W', ⟨⟨g1, g2, g3, g4, g5, g6, fun _ => ⟨b', rfl, hlv⟩, g7.2⟩, ptr p, W', hb1, ⟨p, rfl, hB2⟩, rfl⟩, fun z hz => ?_⟩, ((hK.base (by omega)).weak hsub).up (by omega)⟩
      rcases List.mem_cons.mp hz with q | q
      · left; simp [q]
      · rcases hW2 z q with q2 | q2; (left; simp [q2]); (right; dsimp only at *; omega)
theorem unSum_cr {h : Heap} {c0 b r dr at_ : Nat} {all : List Bool} {u : Un} {W : List Nat} (hP : UnR u b W h.get) (hR : BitR all dr at_ (h.get r)) (hc : r < c0 ∧ ∀ z ∈ W, z < c0) :
    CR Tryz.prog ov 116 [ptr b, ptr r] ⟨h, c0⟩ (fun v st => UnPost h c0 all dr at_ r b W u V2 (u.sumS (all.drop at_)) v st) := by
  have hrW := hP.r_ne hR
  have hP0 := hP
  have h8 : all.length % 8 = 0 := by obtain ⟨s, _, _, h2, _⟩ := hR; omega
  obtain ⟨⟨g1, g2, g3, g4, g5, g6, g7⟩, bvv, bW, hb, hB, rfl⟩ := id hP
  simp only [List.mem_cons, not_or] at hrW
  have hbW : b ∉ bW := kind_ne hB.kind hb (by dsimp only; decide)
  have hbc := hc.2 b (by simp)
  have hln : (all.drop at_).length = all.length - at_ := List.length_drop
  simp only [Un.sumS]
  refine e_2 Tryz.func116 rfl (H _ (by decide)) Tryz.ntmps116 (by decide) ?_
  intro env hl
  refine sg 2 rfl (qA hl rfl (qA hl rfl (nK (sg 7 rfl (qM hl rfl (qC hl rfl (CR.mono ((get_any H hR (by omega) (by omega) (n := 32))) ?_)))))))
  rintro v ⟨hh1, cc1⟩ ⟨e9, w9, rfl, hG, hGK⟩
  have hcc1 : c0 + 2 + 7 ≤ cc1 := hGK.1
  have hb1 := (hGK.2 b (by omega) (by simpa using Ne.symm hrW.1)).trans hb
  have hK1 := (hGK.base (c0 := c0) (by omega)).weak (W' := r :: b :: bW) (by simp)
  refine qM hl rfl (qE hl rfl rfl (qE hl rfl rfl (qA hl rfl (qA hl rfl (nK (rS (rB (sg 3 rfl (qM hl rfl (qB hl rfl rfl rfl (qA hl rfl (nK ?_))))))))))))
  refine rC hl rfl (fun he => ?_) (fun he => ?_)
  · try simp only [dz, dy] at he
    refine sg 3 rfl (qM hl rfl (qA hl rfl (qA hl rfl (nK (rR (k_bloR (kR (f_2 hl rfl (.inl rfl) rfl rfl ?_))))))))
    rcases hG with ⟨hlt, rfl, _, hR4⟩ | ⟨_, rfl, _, _⟩
    · rw [if_pos (by omega)]
      exact ⟨⟨rfl, by decide, fun _ => ⟨hR4, hP0.move (fun z hz => hGK.2 z (by have := hc.2 z hz; omega) (by simp; rintro rfl; simp only [List.mem_cons] at hz; rcases hz with q | q; (exact hrW.1 q); (exact hrW.2 q)))⟩, ⟨_, hb1, rfl⟩, at_, Nat.le_refl _, hR4⟩, hK1.up (by omega)⟩
    · simp at he
  · try simp only [dz, dy] at he
    rcases hG with ⟨_, rfl, _, _⟩ | ⟨hle, _, rfl, hR4⟩
    · simp at he
    rw [if_neg (by omega)]
    refine sg 7 rfl (qM hl rfl (qM hl rfl (qN hl rfl (qF hl rfl fa121_6 (qL hl rfl (by first | assumption | (simp only [gs, hb2]; rfl) | (simp [gs, hb2]; try rfl)) ((p38.1 _ _).trans rfl) ?_)))))
    refine qB hl rfl rfl rfl (qA hl rfl (nK ?_))
    refine rC hl rfl (fun hne => ?_) (fun hne => ?_)
    · try simp only [dz, dy] at hne
      refine sg 2 rfl (qA hl rfl (qA hl rfl (nK (rR (k_bloR (kR (f_2 hl rfl (.inl rfl) rfl rfl ?_)))))))
      rw [if_pos (by omega)]
      exact ⟨⟨rfl, by decide, fun q => absurd q (by decide), ⟨_, hb1, rfl⟩, _, by omega, hR4⟩, hK1.up (by omega)⟩
    · try simp only [dz, dy] at hne
      refine rK (kO (kN (sg 2 rfl (qM hl rfl (qC hl rfl (CR.mono (align_cr H hR4) ?_))))))
      rintro v ⟨hh2, cc2⟩ ⟨hR5, hK2⟩
      refine nK (sg 4 rfl ?_)
      have hcc2 := hK2.1
      dsimp only at hcc2 hR5
      have hb2 := (hK2.2 b (by omega) (by simpa using Ne.symm hrW.1)).trans hb1
      refine qM hl rfl (qN hl rfl (qF hl rfl fa121_1 (qW hl rfl rfl (by first | assumption | (simp only [gs, hb2]; rfl) | (simp [gs, hb2]; try rfl)) p118 rfl rfl (by first | decide | (simp; done) | (simp; omega)) ?_)))
      refine nK (sg 4 rfl (qM hl rfl (qN hl rfl (qF hl rfl fa121_7 (qW hl rfl rfl (by first | assumption | (simp only [gs, hb2]; rfl) | (simp [gs, hb2]; try rfl)) p4 rfl rfl (by first | decide | (simp; done) | (simp; omega)) ?_)))))
      refine nK (sg 2 rfl (qA hl rfl (qA hl rfl (nK (rR (f_2 hl rfl (.inl rfl) rfl rfl ?_))))))
      have ea : (at_ + 32 + 7) / 8 * 8 = at_ + (32 + (all.length - at_ - 32) % 8) := by omega
      rw [if_neg (by simp only [bne_eq_false_iff_eq] at hne; omega)]
      refine ⟨⟨rfl, ?_, b :: bW, ⟨⟨g1, g2, by dsimp only; omega, g4, fun q => absurd rfl q, g6, fun q => absurd (show 0 = 2 from q) (by decide), g7.2⟩, bvv, bW, ?_, hB.move (fun z hz => ?_), rfl⟩, fun z hz => .inl hz⟩, ?_⟩
      · rw [hln, ← ea]; exact hR5.move (by dsimp only; rw [T.get_set, if_neg hrW.1, T.get_set, if_neg hrW.1])
      · dsimp only; rw [T.get_set, if_pos rfl]; rfl
      · have hzb : z ≠ b := fun e => hbW (e ▸ hz)
        have hzr : z ≠ r := fun e => hrW.2 (e ▸ hz)
        have hzc := hc.2 z (by simp [hz])
        dsimp only; rw [T.get_set, if_neg hzb, T.get_set, if_neg hzb, hK2.2 z (by omega) (by simpa using hzr)]; exact hGK.2 z (by omega) (by simpa using hzr)
      · exact ((((hK1.up (c3 := cc1 + 3 + 7 + 2) (by omega)).call hK2 (fun z hz => .inr (by simp only [List.mem_singleton] at hz; simp [hz]))).set (nm := b) (.inr (by simp))).set (nm := b) (.inr (by simp))).up (by omega)
end
theorem UnPost.mv {h : Heap} {c0 c' : Nat} {all : List Bool} {dr at_ r b : Nat} {W : List Nat} {u : Un} {V : Nat → Value → Nat → Prop} {res : Except Nat (Un × Nat × Nat)} {v : Value} {h1 : Heap} {c1 c2 : Nat} (hp : UnPost h c' all dr at_ r b W u V res v ⟨h1, c1⟩) (hb : c0 ≤ c') (hc : c1 ≤ c2) : UnPost h c0 all dr at_ r b W u V res v ⟨h1, c2⟩ := by
  obtain ⟨q, k⟩ := hp
  refine ⟨?_, (k.base hb).up hc⟩
  cases res with
  | ok y => obtain ⟨u', w, n⟩ := y; obtain ⟨q1, q2, W', q3, q4⟩ := q; exact ⟨q1, q2, W', q3, fun z hz => (q4 z hz).imp id (fun q => by dsimp only at *; omega)⟩
  | error e => exact q
theorem UnPost.v12 {h : Heap} {c0 : Nat} {all : List Bool} {dr at_ r b : Nat} {W : List Nat} {u : Un} {res : Except Nat (Un × Nat × Nat)} {v : Value} {st : St} (hp : UnPost h c0 all dr at_ r b W u V1 res v st) : UnPost h c0 all dr at_ r b W u V2 res (.tuple #[nv 0, v]) st := by
  obtain ⟨q, k⟩ := hp
  refine ⟨?_, k⟩
  cases res with
  | ok y => obtain ⟨u', w, n⟩ := y; obtain ⟨⟨rfl, rfl⟩, q2⟩ := q; exact ⟨rfl, q2⟩
  | error e => obtain ⟨⟨rfl, _⟩, q2⟩ := q; exact ⟨rfl, q2⟩
theorem UnPost.tup {h : Heap} {c0 : Nat} {all : List Bool} {dr at_ r b : Nat} {W : List Nat} {u : Un} {res : Except Nat (Un × Nat × Nat)} {v : Value} {st : St} (hp : UnPost h c0 all dr at_ r b W u V2 res v st) : ∃ w e, v = .tuple #[nv w, nv e] ∧ UnPost h c0 all dr at_ r b W u V2 res (.tuple #[nv w, nv e]) st := by
  obtain ⟨q, k⟩ := id hp
  cases res with
  | ok y => obtain ⟨u', w, n⟩ := y; obtain ⟨rfl, q2⟩ := q; exact ⟨_, _, rfl, hp⟩
  | error e => obtain ⟨rfl, q2⟩ := q; exact ⟨_, _, rfl, hp⟩
section
variable {ov : OvT} (H : OvH ov)
include H
theorem unNew_cr {h : Heap} {c : Nat} {unit : Int} :
    CR Tryz.prog ov 16 [iv unit] ⟨h, c⟩ (fun v st => (if 24 ≤ unit ∧ unit ≤ 100000 then ∃ b, v = .tuple #[ptr b, nv 0] ∧ UnR (Un.new unit.toNat) b [b] st.heap.get ∧ c ≤ b ∧ b < st.ctr else v = .tuple #[.pointer none, nv 1]) ∧ Keep [] h c st) := by
  by_cases hu : 24 ≤ unit ∧ unit ≤ 100000
  · simp only [if_pos hu]
    have hr := fun c' => room_cr H (h := h) (c := c') (u := unit)
    simp only [if_pos hu] at hr
    have e1 : ((unit.toNat : Nat) : Int) = unit := by omega
    refine e_1 Tryz.func16 rfl (H _ (by decide)) Tryz.ntmps16 (by decide) ?_
    intro env hl
    refine sg 2 rfl (qA hl rfl (qA hl rfl (nK (rS (sg 7 rfl (qM hl rfl (qC hl rfl (CR.mono (hr _) ?_))))))))
    rintro v ⟨hh1, cc1⟩ ⟨⟨x, rfl⟩, rfl, hk⟩
    try dsimp only at hk
    refine qM hl rfl (qE hl rfl rfl (qE hl rfl rfl (qA hl rfl (qA hl rfl (nK (sg 2 rfl (qM hl rfl (qB hl rfl rfl rfl (nK (rF hl rfl (by first | rfl | (simp only [dz]; omega) | (simp; done) | (simp; omega)) ?_))))))))))
    refine rK (kN (sg 5 rfl (qM hl rfl (qU hl rfl i121 z121 rfl (by simp [Program.built, Instr.fill, Tryz.underlying121, Value.cells]; rfl) ?_))))
    refine q_box hl rfl (qA hl rfl (qA hl rfl (nK (rR (f_2 hl rfl (.inl rfl) rfl rfl ?_)))))
    refine ⟨⟨cc1 + 2 + 2, rfl, ⟨⟨by dsimp only [Un.new]; omega, by dsimp only [Un.new]; omega, Nat.zero_le _, Nat.zero_le _, fun q => absurd rfl q, by dsimp only [Un.new]; omega, fun q => absurd (show 0 = 2 from q) (by decide), by simp [Un.new], Nat.zero_le _, by dsimp only [Un.new]; omega⟩, .pointer none, [], ?_, ⟨rfl, rfl⟩, rfl⟩, by omega, by dsimp only; omega⟩, ((Keep.refl (Nat.le_refl c)).set (.inl (by omega))).up (by omega)⟩
    dsimp only; rw [T.get_set, if_pos rfl]; simp only [Un.new]; rw [show (nv unit.toNat : Value) = iv unit from congrArg (Value.int .i64) e1]; rfl
  · simp only [if_neg hu]
    have hr := fun c' => room_cr H (h := h) (c := c') (u := unit)
    simp only [if_neg hu] at hr
    refine e_1 Tryz.func16 rfl (H _ (by decide)) Tryz.ntmps16 (by decide) ?_
    intro env hl
    refine sg 2 rfl (qA hl rfl (qA hl rfl (nK (rS (sg 7 rfl (qM hl rfl (qC hl rfl (CR.mono (hr _) ?_))))))))
    rintro v ⟨hh1, cc1⟩ ⟨⟨x, rfl⟩, rfl, hk⟩
    try dsimp only at hk
    refine qM hl rfl (qE hl rfl rfl (qE hl rfl rfl (qA hl rfl (qA hl rfl (nK (sg 2 rfl (qM hl rfl (qB hl rfl rfl rfl (nK (rT hl rfl (by first | rfl | (simp only [dz]; omega) | (simp; done) | (simp; omega)) ?_))))))))))
    refine sg 3 rfl (qM hl rfl (qA hl rfl (qA hl rfl (nK (rR (kR (f_2 hl rfl (.inl rfl) rfl rfl ?_)))))))
    exact ⟨rfl, Keep.refl (by omega)⟩
theorem unMayEnd_cr {h : Heap} {c b : Nat} {u : Un} {W : List Nat} (hP : UnR u b W h.get) :
    CR Tryz.prog ov 18 [ptr b] ⟨h, c⟩ (fun v st => v = .bool u.mayEnd ∧ Same h c st) := by
  obtain ⟨_, bvv, bW, hb, hB, rfl⟩ := id hP
  refine e_1 Tryz.func18 rfl (H _ (by decide)) Tryz.ntmps18 (by decide) ?_
  intro env hl
  refine sg 1 rfl (qA hl rfl (nK (sg 30 rfl (qM hl rfl (qB hl rfl rfl (nn33 _) (qM hl rfl (qG hl rfl rfl rfl rfl (qM hl rfl (qG hl rfl rfl rfl rfl (qN hl rfl (qG hl rfl rfl rfl rfl (qF hl rfl fa121_7 (qG hl rfl rfl rfl rfl (qL hl rfl (by assumption) ((p4.1 _ _).trans rfl) ?_))))))))))))))
  refine qQ hl rfl rfl rfl (if_pos rfl) (qM hl rfl ?_)
  refine q_case hl (rfl : lk _ _ 11 = _) (fun h1 => ?_) (fun h1 => ?_)
  · have h1_ := h1
    try simp only [dz] at h1_
    refine qG hl rfl rfl rfl h1 (qM hl rfl (qG hl rfl rfl rfl h1 (qN hl rfl (qG hl rfl rfl rfl h1 (qF hl rfl fa121_1 (qG hl rfl rfl rfl h1 (qL hl rfl (by assumption) ((p118.1 _ _).trans rfl) ?_)))))))
    refine qG hl rfl rfl rfl h1 (qB hl rfl rfl rfl (qQ hl rfl rfl rfl (if_pos h1) (qM hl rfl ?_)))
    refine q_case hl (rfl : lk _ _ 18 = _) (fun h2 => ?_) (fun h2 => ?_)
    · have h2_ := h2
      try simp only [dz] at h2_
      refine qG hl rfl rfl rfl h2 (qM hl rfl (qG hl rfl rfl rfl h2 (qN hl rfl (qG hl rfl rfl rfl h2 (qF hl rfl fa121_2 (qG hl rfl rfl rfl h2 (qL hl rfl (by assumption) ((p3.1 _ _).trans rfl) ?_)))))))
      refine qG hl rfl rfl rfl h2 (qB hl rfl rfl rfl (qQ hl rfl rfl rfl (if_pos h2) (qM hl rfl ?_)))
      refine q_case hl (rfl : lk _ _ 25 = _) (fun h3 => ?_) (fun h3 => ?_)
      · have h3_ := h3
        try simp only [dz] at h3_
        refine qG hl rfl rfl rfl h3 (qM hl rfl (qG hl rfl rfl rfl h3 (qN hl rfl (qG hl rfl rfl rfl h3 (qF hl rfl fa121_8 (qG hl rfl rfl rfl h3 (qL hl rfl (by assumption) ((p23.1 _ _).trans rfl) ?_)))))))
        refine qG hl rfl rfl rfl h3 (qB hl rfl rfl rfl (qQ hl rfl rfl rfl (if_pos h3) (qA hl rfl (nK (rR (f_1 hl rfl (.inl rfl) rfl ?_))))))
        refine ⟨?_, rfl, by simp <;> omega⟩
        have e1 : u.ended = true := h1
        have e2 : u.due = 0 := by simp at h2; omega
        have e3 : u.at_ = 0 := by simp at h3; omega
        simp [Un.mayEnd, e1, e2, e3]
      · have h3_ := h3
        try simp only [dz] at h3_
        refine qS hl rfl rfl rfl rfl (by rw [h3]; decide) ?_
        refine qS hl rfl rfl rfl rfl (by rw [h3]; decide) ?_
        refine qS hl rfl rfl rfl rfl (by rw [h3]; decide) ?_
        refine qS hl rfl rfl rfl rfl (by rw [h3]; decide) ?_
        refine qS hl rfl rfl rfl rfl (by rw [h3]; decide) ?_
        refine qQ hl rfl rfl rfl (if_neg (by rw [h3]; decide)) ?_
        refine qA hl rfl (nK (rR (f_1 hl rfl (.inl rfl) rfl ?_)))
        refine ⟨?_, rfl, by simp <;> omega⟩
        have e3 : u.at_ ≠ 0 := by simp at h3; omega
        simp [Un.mayEnd, e3]
    · have h2_ := h2
      try simp only [dz] at h2_
      refine qS hl rfl rfl rfl rfl (by rw [h2]; decide) ?_
      refine qS hl rfl rfl rfl rfl (by rw [h2]; decide) ?_
      refine qS hl rfl rfl rfl rfl (by rw [h2]; decide) ?_
      refine qS hl rfl rfl rfl rfl (by rw [h2]; decide) ?_
      refine qS hl rfl rfl rfl rfl (by rw [h2]; decide) ?_
      refine qQ hl rfl rfl rfl (if_neg (by rw [h2]; decide)) ?_
      refine qM hl rfl (qS hl rfl rfl rfl rfl (by decide) ?_)
      refine qS hl rfl rfl rfl rfl (by decide) ?_
      refine qS hl rfl rfl rfl rfl (by decide) ?_
      refine qS hl rfl rfl rfl rfl (by decide) ?_
      refine qS hl rfl rfl rfl rfl (by decide) ?_
      refine qQ hl rfl rfl rfl (rfl) (qA hl rfl (nK (rR (f_1 hl rfl (.inl rfl) rfl ?_))))
      refine ⟨?_, rfl, by simp <;> omega⟩
      have e2 : u.due ≠ 0 := by simp at h2; omega
      simp [Un.mayEnd, e2]
  · have h1_ := h1
    try simp only [dz] at h1_
    refine qS hl rfl rfl rfl rfl (by rw [h1]; decide) ?_
    refine qS hl rfl rfl rfl rfl (by rw [h1]; decide) ?_
    refine qS hl rfl rfl rfl rfl (by rw [h1]; decide) ?_
    refine qS hl rfl rfl rfl rfl (by rw [h1]; decide) ?_
    refine qS hl rfl rfl rfl rfl (by rw [h1]; decide) ?_
    refine qQ hl rfl rfl rfl (if_neg (by rw [h1]; decide)) ?_
    refine qM hl rfl (qS hl rfl rfl rfl rfl (by decide) ?_)
    refine qS hl rfl rfl rfl rfl (by decide) ?_
    refine qS hl rfl rfl rfl rfl (by decide) ?_
    refine qS hl rfl rfl rfl rfl (by decide) ?_
    refine qS hl rfl rfl rfl rfl (by decide) ?_
    refine qQ hl rfl rfl rfl (rfl) (qM hl rfl (qS hl rfl rfl rfl rfl (by decide) ?_))
    refine qS hl rfl rfl rfl rfl (by decide) ?_
    refine qS hl rfl rfl rfl rfl (by decide) ?_
    refine qS hl rfl rfl rfl rfl (by decide) ?_
    refine qS hl rfl rfl rfl rfl (by decide) ?_
    refine qQ hl rfl rfl rfl (rfl) (qA hl rfl (nK (rR (f_1 hl rfl (.inl rfl) rfl ?_))))
    refine ⟨?_, rfl, by simp <;> omega⟩
    have e1 : u.ended = false := h1
    simp [Un.mayEnd, e1]
theorem unGot_cr {h : Heap} {c b : Nat} {u : Un} {W : List Nat} (hP : UnR u b W h.get) (hc : b < c) :
    CR Tryz.prog ov 19 [ptr b] ⟨h, c⟩ (fun v st => v = .agg #[.string (txt u.last), nv u.origin, uv u.gsum] ∧ Keep [] h c st) := by
  obtain ⟨_, bvv, bW, hb, hB, rfl⟩ := id hP
  refine e_1 Tryz.func19 rfl (H _ (by decide)) Tryz.ntmps19 (by decide) ?_
  intro env hl
  refine sg 1 rfl (qZ i40 z40 rfl (nK (rS (sg 2 rfl (qM hl rfl (qB hl rfl rfl (nq33 _) (nK (rF hl rfl (by first | rfl | (simp only [dz]; omega) | (simp; done) | (simp; omega)) ?_))))))))
  refine rK (kN (sg 5 rfl (qM hl rfl (qN hl rfl (qF hl rfl fa121_5 (qL hl rfl (T.get_set _ _ _ _ |>.trans ((if_neg (by omega)).trans hb)) ((p40.1 _ _).trans rfl) ?_))))))
  refine qV hl rfl rfl (by first | assumption | (simp only [gs]; rfl) | (simp [gs]; try rfl)) p40 rfl rfl (by simp [Value.cells]) ?_
  refine nK (rR (f_c hl rfl (.inl rfl) rfl  (T.get_set _ _ _ _ |>.trans (if_pos rfl)) ((p40.1 _ _).trans rfl) ?_))
  refine ⟨rfl, (((Keep.refl (Nat.le_refl c)).set (.inl (by omega))).set (.inl (by omega))).up (by omega)⟩
theorem unStep0_cr {h : Heap} {c0 b r dr at_ : Nat} {all : List Bool} {u : Un} {W : List Nat} (hP : UnR u b W h.get) (hR : BitR all dr at_ (h.get r)) (hc : r < c0 ∧ ∀ z ∈ W, z < c0) :
    CR Tryz.prog ov 73 [ptr b, ptr r] ⟨h, c0⟩ (fun v st => UnPost h c0 all dr at_ r b W u V2 (u.step (all.drop at_)) v st) := by
  obtain ⟨⟨g1, g2, g3, g4, g5, g6, g7⟩, bvv, bW, hb, hB, hW⟩ := id hP
  rcases (by omega : u.due = 0 ∨ u.due = 1 ∨ u.due = 2 ∨ u.due = 3) with hd | hd | hd | hd
  · have hH := fun c' (q : c0 ≤ c') => unLetter_cr H (c0 := c') hP hR ⟨by omega, fun z hz => by have := hc.2 z hz; omega⟩ hd
    have hst : u.step (all.drop at_) = u.letter (all.drop at_) := by simp [Un.step, hd]
    rw [hst]
    refine e_2 Tryz.func73 rfl (H _ (by decide)) Tryz.ntmps73 (by decide) ?_
    intro env hl
    refine sg 2 rfl (qA hl rfl (qA hl rfl (nK (rS (sg 4 rfl (qM hl rfl (qN hl rfl (qF hl rfl fa121_1 (qL hl rfl (by assumption) ((p118.1 _ _).trans rfl) ?_)))))))))
    refine nK (rB (sg 2 rfl (qB hl rfl rfl rfl (qA hl rfl (nK (rT hl rfl (by simp [hd]) ?_))))))
    refine sg 5 rfl (qM hl rfl (qM hl rfl (qC hl rfl (CR.mono (hH _ (by omega)) ?_))))
    rintro v ⟨h9, c9⟩ hq
    refine qA hl rfl (qA hl rfl (nK (rR (k_bloR (kR (f_2 hl rfl (.inl rfl) rfl rfl ?_))))))
    exact (UnPost.v12 hq).mv (by omega) (by omega)
  · have hH := fun c' (q : c0 ≤ c') => unMagic_cr H (c0 := c') hP hR ⟨by omega, fun z hz => by have := hc.2 z hz; omega⟩ hd
    have hst : u.step (all.drop at_) = u.magic (all.drop at_) := by simp [Un.step, hd]
    rw [hst]
    refine e_2 Tryz.func73 rfl (H _ (by decide)) Tryz.ntmps73 (by decide) ?_
    intro env hl
    refine sg 2 rfl (qA hl rfl (qA hl rfl (nK (rS (sg 4 rfl (qM hl rfl (qN hl rfl (qF hl rfl fa121_1 (qL hl rfl (by assumption) ((p118.1 _ _).trans rfl) ?_)))))))))
    refine nK (rB (sg 2 rfl (qB hl rfl rfl rfl (qA hl rfl (nK (rF hl rfl (by simp [hd]) ?_))))))
    refine sg 2 rfl (qB hl rfl rfl rfl (qA hl rfl (nK (rT hl rfl (by simp [hd]) ?_))))
    refine sg 5 rfl (qM hl rfl (qM hl rfl (qC hl rfl (CR.mono (hH _ (by omega)) ?_))))
    rintro v ⟨h9, c9⟩ hq
    refine qA hl rfl (qA hl rfl (nK (rR (k_bloR (kR (f_2 hl rfl (.inl rfl) rfl rfl ?_))))))
    exact (UnPost.v12 hq).mv (by omega) (by omega)
  · have hH := fun c' (q : c0 ≤ c') => unBody_cr H (c0 := c') hP hR ⟨by omega, fun z hz => by have := hc.2 z hz; omega⟩ hd
    have hst : u.step (all.drop at_) = u.body (all.drop at_) := by simp [Un.step, hd]
    rw [hst]
    refine e_2 Tryz.func73 rfl (H _ (by decide)) Tryz.ntmps73 (by decide) ?_
    intro env hl
    refine sg 2 rfl (qA hl rfl (qA hl rfl (nK (rS (sg 4 rfl (qM hl rfl (qN hl rfl (qF hl rfl fa121_1 (qL hl rfl (by assumption) ((p118.1 _ _).trans rfl) ?_)))))))))
    refine nK (rB (sg 2 rfl (qB hl rfl rfl rfl (qA hl rfl (nK (rF hl rfl (by simp [hd]) ?_))))))
    refine sg 2 rfl (qB hl rfl rfl rfl (qA hl rfl (nK (rF hl rfl (by simp [hd]) ?_))))
    refine sg 2 rfl (qB hl rfl rfl rfl (qA hl rfl (nK (rT hl rfl (by simp [hd]) ?_))))
    refine sg 7 rfl (qM hl rfl (qM hl rfl (qC hl rfl (CR.mono ((hH _ (by omega)).mono (fun v st q => UnPost.tup q)) ?_))))
    rintro v ⟨h9, c9⟩ ⟨w, e, rfl, hq⟩
    refine qE hl rfl rfl (qE hl rfl rfl (qA hl rfl (qA hl rfl (nK (rR (k_bloR (kR (f_2 hl rfl (.inl rfl) rfl rfl ?_))))))))
    exact hq.mv (by omega) (by omega)
  · have hH := fun c' (q : c0 ≤ c') => unSum_cr H (c0 := c') hP hR ⟨by omega, fun z hz => by have := hc.2 z hz; omega⟩
    have hst : u.step (all.drop at_) = u.sumS (all.drop at_) := by simp [Un.step, hd]
    rw [hst]
    refine e_2 Tryz.func73 rfl (H _ (by decide)) Tryz.ntmps73 (by decide) ?_
    intro env hl
    refine sg 2 rfl (qA hl rfl (qA hl rfl (nK (rS (sg 4 rfl (qM hl rfl (qN hl rfl (qF hl rfl fa121_1 (qL hl rfl (by assumption) ((p118.1 _ _).trans rfl) ?_)))))))))
    refine nK (rB (sg 2 rfl (qB hl rfl rfl rfl (qA hl rfl (nK (rF hl rfl (by simp [hd]) ?_))))))
    refine sg 2 rfl (qB hl rfl rfl rfl (qA hl rfl (nK (rF hl rfl (by simp [hd]) ?_))))
    refine sg 2 rfl (qB hl rfl rfl rfl (qA hl rfl (nK (rF hl rfl (by simp [hd]) ?_))))
    refine rK (kO (kN (sg 7 rfl (qM hl rfl (qM hl rfl (qC hl rfl (CR.mono ((hH _ (by omega)).mono (fun v st q => UnPost.tup q)) ?_)))))))
    rintro v ⟨h9, c9⟩ ⟨w, e, rfl, hq⟩
    refine qE hl rfl rfl (qE hl rfl rfl (qA hl rfl (qA hl rfl (nK (rR (f_2 hl rfl (.inl rfl) rfl rfl ?_))))))
    exact hq.mv (by omega) (by omega)
theorem unStep_cr {h : Heap} {c0 b r dr at_ : Nat} {all : List Bool} {u : Un} {W : List Nat} (hP : UnR u b W h.get) (hR : BitR all dr at_ (h.get r)) (hc : r < c0 ∧ ∀ z ∈ W, z < c0) :
    CR Tryz.prog ov 23 [ptr b, ptr r] ⟨h, c0⟩ (fun v st => UnPost h c0 all dr at_ r b W u V2 (u.step (all.drop at_)) v st) := by
  have hrW := hP.r_ne hR
  obtain ⟨_, bvv, bW, hb, hB, hWW⟩ := id hP
  have hbW : b ∈ W := by rw [hWW]; simp
  have hrb : r ≠ b := fun e => hrW (e ▸ hbW)
  have hbc := hc.2 b hbW
  have hH := fun c' (q : c0 ≤ c') => unStep0_cr H (c0 := c') hP hR ⟨by omega, fun z hz => by have := hc.2 z hz; omega⟩
  cases hg : u.step (all.drop at_) with
  | error e =>
    simp only [hg, UnPost, V2] at hH
    refine e_2 Tryz.func23 rfl (H _ (by decide)) Tryz.ntmps23 (by decide) ?_
    intro env hl
    refine sg 2 rfl (qA hl rfl (qA hl rfl (nK (rS (rB (sg 7 rfl (qM hl rfl (qB hl rfl rfl (nq33 _) (qM hl rfl (qG hl rfl rfl rfl rfl (qM hl rfl (qG hl rfl rfl rfl rfl (qB hl rfl rfl (nq36 _) (qQ hl rfl rfl rfl (rfl) (qA hl rfl (nK (rF hl rfl (by first | rfl | (simp only [dz]; omega) | (simp; done) | (simp; omega)) ?_)))))))))))))))))
    refine sg 6 rfl (qM hl rfl (qN hl rfl (qF hl rfl fa121_8 (qL hl rfl (by assumption) ((p23.1 _ _).trans rfl) ?_))))
    refine qB hl rfl rfl rfl (qA hl rfl (nK (rF hl rfl (by first | rfl | (simp only [dz]; omega) | (simp; done) | (simp; omega)) ?_)))
    refine rK (kO (kN (sg 8 rfl (qM hl rfl (qM hl rfl (qC hl rfl (CR.mono (hH _ (by omega)) ?_)))))))
    rintro v ⟨hh1, cc1⟩ ⟨⟨rfl, he0, hsh, ⟨B, hB, hBl⟩, k, hk3, hR2⟩, hK⟩
    refine qM hl rfl (qE hl rfl rfl (qE hl rfl rfl (qA hl rfl (qA hl rfl (nK (rS (sg 2 rfl (qM hl rfl (qB hl rfl rfl rfl (nK ?_))))))))))
    refine rC hl rfl (fun he => ?_) (fun he => ?_)
    · try simp only [dz, dy] at he
      refine rg 5 rfl (qM hl rfl (qM hl rfl (qN hl rfl (qF hl rfl fa121_8 (qW hl rfl rfl (by assumption) p23 rfl rfl (by omega) ?_)))))
      refine nK (sg 4 rfl (qM hl rfl (qM hl rfl (qA hl rfl (qA hl rfl (nK (rR (f_2 hl rfl (.inl rfl) rfl rfl ?_))))))))
      refine ⟨⟨rfl, he0, fun q => absurd q (by omega), ⟨_, (T.get_set _ _ _ _).trans (if_pos rfl), by simp [hBl]⟩, k, hk3, hR2.move (by dsimp only; rw [T.get_set, if_neg hrb])⟩, ((hK.base (c0 := c0) (by omega)).set (nm := b) (.inr (by simp [hbW]))).up (by omega)⟩
    · try simp only [dz, dy] at he
      refine rK (kN (sg 4 rfl (qM hl rfl (qM hl rfl (qA hl rfl (qA hl rfl (nK (rR (f_2 hl rfl (.inl rfl) rfl rfl ?_)))))))))
      exact ⟨⟨rfl, he0, hsh, ⟨B, hB, hBl⟩, k, hk3, hR2⟩, (hK.base (by omega)).up (by omega)⟩
  | ok y =>
    obtain ⟨u', w, n⟩ := y
    simp only [hg, UnPost, V2] at hH
    refine e_2 Tryz.func23 rfl (H _ (by decide)) Tryz.ntmps23 (by decide) ?_
    intro env hl
    refine sg 2 rfl (qA hl rfl (qA hl rfl (nK (rS (rB (sg 7 rfl (qM hl rfl (qB hl rfl rfl (nq33 _) (qM hl rfl (qG hl rfl rfl rfl rfl (qM hl rfl (qG hl rfl rfl rfl rfl (qB hl rfl rfl (nq36 _) (qQ hl rfl rfl rfl (rfl) (qA hl rfl (nK (rF hl rfl (by first | rfl | (simp only [dz]; omega) | (simp; done) | (simp; omega)) ?_)))))))))))))))))
    refine sg 6 rfl (qM hl rfl (qN hl rfl (qF hl rfl fa121_8 (qL hl rfl (by assumption) ((p23.1 _ _).trans rfl) ?_))))
    refine qB hl rfl rfl rfl (qA hl rfl (nK (rF hl rfl (by first | rfl | (simp only [dz]; omega) | (simp; done) | (simp; omega)) ?_)))
    refine rK (kO (kN (sg 8 rfl (qM hl rfl (qM hl rfl (qC hl rfl (CR.mono (hH _ (by omega)) ?_)))))))
    rintro v ⟨hh1, cc1⟩ ⟨⟨rfl, hR2, W', hP2, hW2⟩, hK⟩
    obtain ⟨_, bvv2, bW2, hb2, _⟩ := id hP2
    refine qM hl rfl (qE hl rfl rfl (qE hl rfl rfl (qA hl rfl (qA hl rfl (nK (rS (sg 2 rfl (qM hl rfl (qB hl rfl rfl rfl (nK (rT hl rfl (by first | rfl | (simp only [dz]; omega) | (simp; done) | (simp; omega)) ?_)))))))))))
    refine rg 5 rfl (qM hl rfl (qM hl rfl (qN hl rfl (qF hl rfl fa121_8 (qW hl rfl rfl (by assumption) p23 rfl rfl (by first | decide | (simp; done) | (simp; omega)) ?_)))))
    refine nK (sg 4 rfl (qM hl rfl (qM hl rfl (qA hl rfl (qA hl rfl (nK (rR (f_2 hl rfl (.inl rfl) rfl rfl ?_))))))))
    have hsm := T_same hb2
    refine ⟨⟨rfl, hR2.move (by dsimp only; exact hsm r), W', hP2.move (fun z hz => by dsimp only; exact hsm z), fun z hz => (hW2 z hz).imp id (fun q => by dsimp only at *; omega)⟩, ((hK.base (c0 := c0) (by omega)).set (nm := b) (.inr (by simp [hbW]))).up (by omega)⟩
end
theorem getC_len (l : List Nat) {s m : Nat} : ∀ (b : List Bool) (n v : Nat), getC l n v b = .ok (s, m) → n ≤ m ∧ m < n + b.length := by
  intro b
  induction b with
  | nil => intro n v h; simp only [getC] at h; split at h <;> cases h
  | cons t b ih =>
    intro n v h; simp only [getC] at h
    split at h
    · cases h
    · split at h
      · cases h; simp
      · have := ih _ _ h; simp only [List.length_cons]; omega
theorem De.step_pos {d d' : De} {l : List Bool} {n : Nat} (h : d.step l = .ok (d', n)) : 0 < n ∧ n ≤ l.length := by
  simp only [De.step] at h
  repeat' split at h
  all_goals first | (cases h; done) | skip
  · cases h; omega
  · cases h; simp
  · cases h; simp
  · cases h; simp
theorem Co.step_pos {c c' : Co} {l : List Bool} {o : Option Nat} {n : Nat} (h : c.step l = .ok (c', o, n)) : 0 < n ∧ n ≤ l.length := by
  rw [Co.step_eq] at h
  split at h
  · cases hs : c.pk.step l with
    | error e => rw [hs] at h; cases h
    | ok y => rw [hs] at h; cases h; exact Pk.step_pos hs
  · split at h
    · simp only [Co.tab] at h
      cases hs : c.de.step l with
      | error e => rw [hs] at h; cases h
      | ok y =>
        obtain ⟨d, m⟩ := y
        have hp := De.step_pos hs
        rw [hs] at h
        simp only at h
        repeat' split at h
        all_goals first | (cases h; done) | (cases h; exact hp)
    · simp only [Co.sym] at h
      split at h
      · cases h
      · cases hs : getC (c.tabs.getD (c.pk.picks.getD (c.out.length / 50) 0) []) 1 0 l with
        | error e => rw [hs] at h; cases h
        | ok y => rw [hs] at h; cases h; have := getC_len _ _ _ _ hs; omega
def Bl.pend (b : Bl) : Nat := match b.row with
  | none => 0
  | some x => x.due + (if 0 < x.place then 1 else 0)
theorem Bl.step_pend {b b' : Bl} {l : List Bool} {n : Nat} (h : b.step l = .ok (b', n)) : n ≤ l.length ∧ (n = 0 → b'.pend < b.pend) := by
  simp only [Bl.step] at h
  cases hg : b.go l with
  | error e => rw [hg] at h; cases h
  | ok y =>
    obtain ⟨b1, n1⟩ := y
    rw [hg] at h
    simp only at h
    cases hf : b1.fin with
    | error e => rw [hf] at h; cases h
    | ok b2 =>
      rw [hf] at h; cases h
      have hrow := (Bl.fin_fields hf).2.2.2.1
      have hp : b'.pend = b1.pend := by simp only [Bl.pend, hrow]
      rw [hp]
      simp only [Bl.go] at hg
      split at hg
      · split at hg
        · cases hg
        · split at hg
          · cases hg
          · cases hg; omega
      · split at hg
        · cases hu : usedR l with
          | error e => rw [hu] at hg; cases hg
          | ok y => rw [hu] at hg; cases hg; have := usedR_ok hu; omega
        · rename_i x hx
          split at hg
          · rename_i hw
            cases hg
            refine ⟨Nat.zero_le _, fun _ => ?_⟩
            simp only [Bl.pend, hx]
            have hw2 : 0 < x.due ∨ 0 < x.place := by simp [Rw.waits] at hw; exact hw
            by_cases hd : 0 < x.due
            · simp only [Rw.next, if_pos hd]; omega
            · simp only [Rw.next, if_neg hd]; rw [if_pos (show 0 < x.place by omega)]; simp
          · cases hu : x.step l with
            | error e => rw [hu] at hg; cases hg
            | ok y =>
              rw [hu] at hg; cases hg
              simp only [Rw.step] at hu
              cases hc : x.co.step l with
              | error e => rw [hc] at hu; cases hu
              | ok z =>
                obtain ⟨c', o, m⟩ := z
                have hq := Co.step_pos hc
                rw [hc] at hu
                cases o with
                | none => cases hu; omega
                | some s =>
                  simp only at hu
                  cases hz : x.ze.put s with
                  | error e => rw [hz] at hu; cases hu
                  | ok w => rw [hz] at hu; cases hu; omega
def Un.pend (u : Un) : Nat := match u.block with
  | none => 0
  | some b => b.pend
theorem Un.step_pend {u u' : Un} {l : List Bool} {w n : Nat} (h : u.step l = .ok (u', w, n)) (hl : u.due = 2 → ∃ b, u.block = some b ∧ b.live) : n ≤ l.length ∧ (n = 0 → u'.pend < u.pend) ∧ (w = 1 → u'.origin < u'.last.length) := by
  simp only [Un.step] at h
  split at h
  · simp only [Un.letter] at h
    repeat' split at h
    all_goals first | (cases h; done) | (cases h; exact ⟨by omega, by omega, by omega⟩)
  · split at h
    · simp only [Un.magic] at h
      repeat' split at h
      all_goals first | (cases h; done) | (cases h; exact ⟨by omega, by omega, by omega⟩)
    · split at h
      · rename_i h2
        obtain ⟨b, hb, hlv⟩ := hl h2
        simp only [Un.body, hb] at h
        cases hs : b.step l with
        | error e => rw [hs] at h; cases h
        | ok y =>
          obtain ⟨b', m⟩ := y
          have hp := Bl.step_pend hs
          rw [hs] at h
          simp only at h
          by_cases hd : b'.done = true
          · rw [hd] at h; simp only [Bool.not_true, Bool.false_eq_true, if_false] at h
            cases h
            refine ⟨hp.1, fun q => ?_, fun _ => Bl.step_done hs hlv.1 hd⟩
            have := hp.2 q; simp only [Un.pend, hb]; omega
          · have hd' : b'.done = false := by simpa using hd
            rw [hd'] at h; simp only [Bool.not_false, if_true] at h
            cases h
            exact ⟨hp.1, fun q => by simp only [Un.pend, hb]; exact hp.2 q, fun q => absurd q (by decide)⟩
      · simp only [Un.sumS] at h
        repeat' split at h
        all_goals first | (cases h; done) | (cases h; refine ⟨?_, by omega, fun q => absurd q (by decide)⟩; have := Nat.mod_le (l.length - 32) 8; omega)
theorem UnR.pend_le {u : Un} {b : Nat} {W : List Nat} {g : Nat → Option Blk} (h : UnR u b W g) : u.pend ≤ 900001 := by
  obtain ⟨_, v, bW, h1, h2, rfl⟩ := h
  cases hb : u.block with
  | none => simp [Un.pend, hb]
  | some bl =>
    rw [hb] at h2
    obtain ⟨p, _, ⟨g1, g2, g3, g4, g5, g6, g7, g8⟩, la, cp, rv, rW, q1, q2, q3, q4, _⟩ := h2
    simp only [Un.pend, hb, Bl.pend]
    cases hr : bl.row with
    | none => simp
    | some x =>
      obtain ⟨k1, k2⟩ := g8 x hr
      rw [hr] at q3
      obtain ⟨rb, _, _, _, _, _, _, _, _, _, hZ, _⟩ := q3
      have := hZ.1.2.2.2.1
      simp only; omega
def withStep (p : Un × List Nat) (l : List Bool) : Except Nat ((Un × List Nat) × Nat) := match p.1.step l with
  | .error e => .error (if e = 3 then 24 else e)
  | .ok (u', w, n) => if w = 1 then match openR u'.last u'.origin u'.gsum with
      | .error e => .error e
      | .ok t => .ok ((u', p.2 ++ t), n)
    else .ok ((u', p.2), n)
def withFin (p : Un × List Nat) (l : List Bool) : Bool := p.1.mayEnd && l.length == 0
def WithR (unit : Nat) (l : List Bool) (r : Except Nat ((Un × List Nat) × Nat)) : Prop := Runs withStep withFin l (Un.new unit, []) 0 r
theorem Un.step_due {u u' : Un} {l : List Bool} {w n : Nat} (h : u.step l = .ok (u', w, n)) : (u'.due = 2 → u.due = 2 ∨ 1 ≤ n) ∧ (w = 1 → u.due = 2 ∧ u'.due = 1) := by
  simp only [Un.step] at h
  split at h
  · simp only [Un.letter] at h
    repeat' split at h
    all_goals first | (cases h; done) | (cases h; exact ⟨fun _ => .inr (by omega), by omega⟩)
  · split at h
    · simp only [Un.magic] at h
      repeat' split at h
      all_goals first | (cases h; done) | (cases h; exact ⟨fun _ => .inr (by omega), by omega⟩)
    · split at h
      · rename_i h2
        refine ⟨fun _ => .inl h2, fun hw => ⟨h2, ?_⟩⟩
        simp only [Un.body] at h
        repeat' split at h
        all_goals first | (cases h; done) | (cases h; omega) | (cases h; rfl)
      · simp only [Un.sumS] at h
        repeat' split at h
        all_goals first | (cases h; done) | (cases h; exact ⟨fun q => absurd (show 0 = 2 from q) (by decide), by omega⟩)
theorem UnPost.split {h : Heap} {c0 : Nat} {all : List Bool} {dr at_ r b w e : Nat} {W : List Nat} {u : Un} {res : Except Nat (Un × Nat × Nat)} {st : St} (hp : UnPost h c0 all dr at_ r b W u V2 res (.tuple #[nv w, nv e]) st) :
    ((res = .error e ∧ e ≠ 0) ∨ ∃ u' n, res = .ok (u', w, n) ∧ e = 0 ∧ BitR all dr (at_ + n) (st.heap.get r) ∧ ∃ W', UnR u' b W' st.heap.get ∧ ∀ z ∈ W', z ∈ W ∨ c0 ≤ z ∧ z < st.ctr) ∧ Keep (r :: W) h c0 st := by
  obtain ⟨q, k⟩ := hp
  refine ⟨?_, k⟩
  cases res with
  | ok y =>
    obtain ⟨u', w', n⟩ := y
    obtain ⟨q1, q2, q3⟩ := q
    simp only [V2, Value.tuple.injEq, Array.mk.injEq, List.cons.injEq, Value.int.injEq, true_and, and_true] at q1
    have e1 : w = w' := by omega
    have e2 : e = 0 := by omega
    subst e1
    exact .inr ⟨u', n, rfl, e2, q2, q3⟩
  | error e' =>
    obtain ⟨q1, q2, _⟩ := q
    simp only [V2, Value.tuple.injEq, Array.mk.injEq, List.cons.injEq, Value.int.injEq, true_and, and_true] at q1
    have e2 : e = e' := by omega
    subst e2
    exact .inl ⟨rfl, q2⟩
section
variable {ov : OvT} (H : OvB ov)
include H
theorem open_cr2 {h : Heap} {c o sum : Nat} {s : List Nat} (h256 : ∀ x ∈ s, x < 256) (hn : s.length ≤ 900000) (ho : o < s.length) (hs : sum < 4294967296) :
    CR Tryz.prog ov 64 [.agg #[.string (txt s), nv o, uv sum]] ⟨h, c⟩ (fun v st => ∃ (T : ByteArray) (e : Nat), v = .tuple #[.string T, nv e] ∧ ((e ≠ 0 ∧ openR s o sum = .error e) ∨ (e = 0 ∧ ∃ t, openR s o sum = .ok t ∧ T = txt t ∧ (∀ x ∈ t, x < 256) ∧ t.length ≤ 225900000)) ∧ Keep [] h c st) := by
  refine (open_cr H.h h256 hn ho hs).mono ?_
  rintro v st ⟨q, k⟩
  cases hr : openR s o sum with
  | error e => rw [hr] at q; obtain ⟨rfl, q2⟩ := q; exact ⟨_, _, rfl, .inl ⟨q2, rfl⟩, k⟩
  | ok t => rw [hr] at q; obtain ⟨rfl, q2, q3⟩ := q; exact ⟨_, _, rfl, .inr ⟨rfl, t, rfl, rfl, q2, q3⟩, k⟩
theorem with_cr {h : Heap} {c : Nat} {unit : Int} {s : ByteArray} (hs : s.size ≤ 1000) :
    CR Tryz.prog ov 12 [iv unit, .string s] ⟨h, c⟩ (fun v st => (if 24 ≤ unit ∧ unit ≤ 100000 then ∃ r, WithR unit.toNat (bitsL s.data.toList) r ∧ (match r with
      | .ok (p, _) => v = .tuple #[.string (txt p.2), nv 0]
      | .error e => v = .tuple #[nostr, nv e]) else v = .tuple #[nostr, nv 1]) ∧ Keep [] h c st) := by
  have hN := fun c' => unNew_cr H.h (h := h) (c := c') (unit := unit)
  by_cases hu : 24 ≤ unit ∧ unit ≤ 100000
  · simp only [if_pos hu] at hN ⊢
    have hal : (bitsL s.data.toList).length ≤ 8000 := by rw [bitsL_length]; have h1 : s.data.toList.length = s.size := Array.length_toList; rw [h1]; omega
    generalize hall : bitsL s.data.toList = all at *
    refine e_2 Tryz.func12 rfl (H.h _ (by decide)) Tryz.ntmps12 (by decide) ?_
    intro env hl
    refine sg 2 rfl (qA hl rfl (qA hl rfl (nK (sg 7 rfl (qM hl rfl (qC hl rfl (CR.mono (hN _) ?_)))))))
    rintro v ⟨hh1, cc1⟩ ⟨⟨b, rfl, hU, hb1, hb2⟩, hK⟩
    have hcc1 := hK.1
    dsimp only at hcc1 hU hb2
    refine qM hl rfl (qE hl rfl rfl (qE hl rfl rfl (qA hl rfl (qA hl rfl (nK (rS (sg 2 rfl (qM hl rfl (qB hl rfl rfl rfl (nK (rF hl rfl (by first | rfl | (simp only [dz]; omega) | (simp; done) | (simp; omega)) ?_)))))))))))
    refine rK (kN (sg 3 rfl (qM hl rfl (qC hl rfl (CR.mono (newReader_cr H.h (by omega)) ?_)))))
    rintro v ⟨hh2, cc2⟩ ⟨r, rfl, hr1, hr2, hR, hK2⟩
    have hcc2 := hK2.1
    dsimp only at hcc2 hR hr2
    rw [hall] at hR
    refine qA hl rfl (nK (sg 1 rfl (qZ i104 z104 rfl (nK (rB ?_)))))
    refine rL (fun m env' s' => ∃ u out W ba n, m = 1000002 * (all.length - n) + u.pend ∧ n ≤ all.length ∧ Hd 59 [(6, ptr b), (8, ptr r), (9, ptr cc2)] env' ∧ UnR u b W s'.heap.get ∧ BitR all 0 n (s'.heap.get r) ∧ BuR out cc2 ba s'.heap.get ∧ (∀ rr, Runs withStep withFin all (u, out) n rr → WithR unit.toNat all rr) ∧ out.length + (if u.due = 2 then 225900000 else 0) ≤ 225900000 * n ∧ (∀ z ∈ W, c ≤ z ∧ z < s'.ctr) ∧ (∀ z ∈ own ba, c ≤ z ∧ z < s'.ctr ∧ z ∉ W) ∧ cc2 < s'.ctr ∧ Keep [] h c s') (1000002 * all.length) ?_ ?_
    · refine ⟨Un.new unit.toNat, [], [b], none, 0, by simp [Un.pend, Un.new], Nat.zero_le _, Ho hl ⟨rfl, rfl, rfl, trivial⟩, hU.move ?_, hR.move ?_, ⟨by simp, .pointer none, 0, .inl rfl, (T.get_set _ _ _ _).trans (if_pos rfl), SlR.nil⟩, fun rr q => q, by simp [Un.new], fun z hz => ?_, by simp [own], by dsimp only; omega, ((((hK.base (c0 := c) (by omega)).up (c3 := cc1 + 2 + 3) (by omega)).call hK2 (by simp)).set (.inl (by omega))).up (by omega)⟩
      · intro z hz; simp only [List.mem_singleton] at hz; subst hz; dsimp only; rw [T.get_set, if_neg (by omega)]; exact hK2.2 _ (by omega) (by simp)
      · dsimp only; rw [T.get_set, if_neg (by omega)]
      · simp only [List.mem_singleton] at hz; subst hz; dsimp only; omega
    rintro m _ ⟨h2, c2⟩ ⟨u, out, W, ba, n, rfl, hn, ⟨env, hl, rfl⟩, hU2, hR2, hB2, hRuns, hbd, hW, hba, hc2, hKK⟩
    dsimp only at hU2 hR2 hB2 hW hba hc2
    have hpl := hU2.pend_le
    have hrW := hU2.r_ne hR2
    obtain ⟨hgood, bvv, bW, hbu, hbB, hWW⟩ := id hU2
    obtain ⟨hB256, bp, bcp, hbp, hbb, hbS⟩ := id hB2
    have hnbW : cc2 ∉ W := by rw [hWW]; simp only [List.mem_cons, not_or]; exact ⟨blk_ne hbb hbu (by dsimp only; decide), kind_ne hbB.kind hbb (by dsimp only; decide)⟩
    have hrn : r ≠ cc2 := hR2.ne hbb (by dsimp only; decide)
    have hrba := hR2.own hbS (by decide)
    have hnba : cc2 ∉ own ba := own_ne hbS hbb (by dsimp only; decide)
    have hbW2 : b ∈ W := by rw [hWW]; simp
    have hbc2 := hW b hbW2
    have hrc2 : r < c2 := by omega
    have hln : (all.drop n).length = all.length - n := List.length_drop
    have hdue := hgood.2.2.2.2.2.2.1
    refine rB (rS (sg 7 rfl (qM hl rfl (qC hl rfl (CR.mono (unMayEnd_cr H.h hU2) ?_)))))
    rintro v ⟨hh3, cc3⟩ ⟨rfl, rfl, hk⟩
    try dsimp only at hk
    refine qM hl rfl ?_
    refine q_case hl (rfl : lk _ _ 26 = _) (fun hme => ?_) (fun hme => ?_)
    · have hme_ := hme
      try simp only [dz] at hme_
      refine qG hl rfl rfl rfl hme (qM hl rfl (qG hl rfl rfl rfl hme (qC hl rfl (CR.mono (left_cr H.h hR2 (by omega)) ?_))))
      rintro v ⟨hh4, cc4⟩ ⟨rfl, rfl, hk⟩
      try dsimp only at hk
      refine qG hl rfl rfl rfl hme (qB hl rfl rfl rfl (qQ hl rfl rfl rfl (if_pos hme) (nK ?_)))
      refine rC hl rfl (fun hz => ?_) (fun hz => ?_)
      · try simp only [dz, dy] at hz
        refine sg 3 rfl (qC hl rfl (CR.mono (buString_cr H hB2 (by split at hbd <;> omega)) ?_))
        rintro v ⟨hh5, cc5⟩ ⟨rfl, hst⟩
        refine qA hl rfl (qA hl rfl (nK (rR (kR (k_bloR (kR (k_bloR (f_2 hl rfl (.inl rfl) rfl rfl ?_))))))))
        have hfin : withFin (u, out) (all.drop n) = true := by simp only [withFin]; rw [show u.mayEnd = true from hme, hln]; (try simp at hz); simp; omega
        exact ⟨⟨.ok ((u, out), n), hRuns _ (.stop hfin), rfl⟩, ((hKK.up (by omega)).call hst (fun z hz => .inl (hba z hz).1)).up (by omega)⟩
      · try simp only [dz, dy] at hz
        have hfin : withFin (u, out) (all.drop n) = false := by simp only [withFin]; rw [hln]; (try simp at hz); simp; omega
        refine rK (kN (sg 8 rfl (qM hl rfl (qM hl rfl (qC hl rfl (CR.mono ((unStep_cr H.h hU2 hR2 ⟨by omega, fun z hz => by have := hW z hz; omega⟩).mono (fun v st q => UnPost.tup q)) ?_))))))
        rintro v ⟨hhS, ccS⟩ ⟨w, e, rfl, hq⟩
        refine qM hl rfl ?_
        obtain ⟨hcase, hKs⟩ := hq.split
        have hccS := hKs.1
        dsimp only at hccS hcase
        refine qE hl rfl rfl (qE hl rfl rfl (qA hl rfl (qA hl rfl (nK (rB (sg 3 rfl (qM hl rfl (qB hl rfl rfl rfl (qA hl rfl (nK ?_))))))))))
        refine rC hl rfl (fun h3 => ?_) (fun h3 => ?_)
        · try simp only [dz, dy] at h3
          refine sg 2 rfl (qA hl rfl (qA hl rfl (nK (rR (k_bloR (k_bloR (kR (k_bloR (f_2 hl rfl (.inl rfl) rfl rfl ?_)))))))))
          rcases hcase with ⟨hres, hne⟩ | ⟨u', n', hres, he, _⟩
          · refine ⟨⟨.error 24, hRuns _ (.fail hfin ?_), rfl⟩, ?_⟩
            · simp only [withStep, hres]; rw [if_pos (by omega)]
            · exact ((hKK.up (by omega)).call hKs (fun z hz => by simp only [List.mem_cons] at hz; left; rcases hz with q | q; (subst q; omega); (exact (hW z q).1))).up (by omega)
          · omega
        · try simp only [dz, dy] at h3
          refine sg 3 rfl (qM hl rfl (qB hl rfl rfl rfl (qA hl rfl (nK ?_))))
          refine rC hl rfl (fun h0 => ?_) (fun h0 => ?_)
          · try simp only [dz, dy] at h0
            refine sg 3 rfl (qM hl rfl (qA hl rfl (qA hl rfl (nK (rR (k_bloR (k_bloR (kR (k_bloR (f_2 hl rfl (.inl rfl) rfl rfl ?_))))))))))
            rcases hcase with ⟨hres, hne⟩ | ⟨u', n', hres, he, _⟩
            · refine ⟨⟨.error e, hRuns _ (.fail hfin ?_), rfl⟩, ?_⟩
              · simp only [withStep, hres]; rw [if_neg (by omega)]
              · exact ((hKK.up (by omega)).call hKs (fun z hz => by simp only [List.mem_cons] at hz; left; rcases hz with q | q; (subst q; omega); (exact (hW z q).1))).up (by omega)
            · simp at h0; omega
          · try simp only [dz, dy] at h0
            rcases hcase with ⟨hres, hne⟩ | ⟨u', n', hres, he, hR3, W', hU3, hW3⟩
            · simp at h0; omega
            have hsp := Un.step_pend hres hdue
            have hsd := Un.step_due hres
            have hpl3 := hU3.pend_le
            have hbm : ∀ z, z = cc2 ∨ z ∈ own ba → hhS.get z = h2.get z := fun z hz => hKs.2 z (by rcases hz with q | q; omega; have := hba z q; omega) (by simp only [List.mem_cons, not_or]; rcases hz with q | q; (subst q; exact ⟨hrn.symm, hnbW⟩); (exact ⟨fun e => hrba (e ▸ q), (hba z q).2.2⟩))
            have hB3 := hB2.move (g' := hhS.get) hbm
            have hWc : ∀ z ∈ W', c ≤ z ∧ z < ccS := fun z hz => by rcases hW3 z hz with q | q; (have := hW z q; omega); omega
            have hbaW : ∀ z ∈ own ba, z ∉ W' := fun z hz hm => by rcases hW3 z hm with q | q; (exact (hba z hz).2.2 q); (have := hba z hz; omega)
            rw [hln] at hsp
            refine sg 3 rfl (qM hl rfl (qB hl rfl rfl rfl (qA hl rfl (nK ?_))))
            refine rC hl rfl (fun hw => ?_) (fun hw => ?_)
            · try simp only [dz, dy] at hw
              have hw1 : w = 1 := by omega
              subst hw1
              have hd2 := hsd.2 rfl
              rw [if_pos hd2.1] at hbd
              have hg3 := hU3.1.2.2.2.2.2.2.2
              refine sg 8 rfl (qM hl rfl (qC hl rfl (CR.mono (unGot_cr H.h hU3 (by have := hWc b (by obtain ⟨_, _, _, _, _, q⟩ := hU3; rw [q]; simp); omega)) ?_)))
              rintro v ⟨hhG, ccG⟩ ⟨rfl, hKg⟩
              refine qC hl rfl (CR.mono (open_cr2 H hg3.1 hg3.2.1 (hsp.2.2 rfl) hg3.2.2) ?_)
              rintro v ⟨hhO, ccO⟩ ⟨T, e5, rfl, ho5, hKo⟩
              refine qM hl rfl ?_
              have hccG := hKg.1
              have hccO := hKo.1
              dsimp only at hccG hccO
              refine qE hl rfl rfl (qE hl rfl rfl (qA hl rfl (qA hl rfl (nK (rS (sg 2 rfl (qM hl rfl (qB hl rfl rfl rfl (nK ?_)))))))))
              refine rC hl rfl (fun h5 => ?_) (fun h5 => ?_)
              · try simp only [dz, dy] at h5
                refine sg 3 rfl (qM hl rfl (qA hl rfl (qA hl rfl (nK (rR (kR (k_bloR (k_bloR (kR (k_bloR (f_2 hl rfl (.inl rfl) rfl rfl ?_)))))))))))
                rcases ho5 with ⟨hne5, hr5⟩ | ⟨he5, _⟩
                · refine ⟨⟨.error e5, hRuns _ (.fail hfin ?_), ?_⟩, ?_⟩
                  · simp only [withStep, hres, if_true, hr5]
                  · rfl
                  · exact (((((hKK.up (by omega)).call hKs (fun z hz => by simp only [List.mem_cons] at hz; left; rcases hz with q | q; (subst q; omega); (exact (hW z q).1))).up (c3 := ccS + 3 + 3 + 3 + 8) (by omega)).call hKg (by simp)).call hKo (by simp)).up (by omega)
                · simp at h5; omega
              · try simp only [dz, dy] at h5
                rcases ho5 with ⟨hne5, _⟩ | ⟨he5, t, hr5, rfl, ht256, htl⟩
                · simp at h5; omega
                have hkeep2 : ∀ z, z < ccS → hhO.get z = hhS.get z := fun z hz => (hKo.2 z (by omega) (by simp)).trans (hKg.2 z (by omega) (by simp))
                refine rK (kN (rg 2 rfl (qM hl rfl (qC hl rfl (CR.mono (buWrite_cr H (hB3.move (g' := hhO.get) (fun z hz => hkeep2 z (by rcases hz with q | q; omega; have := hba z q; omega))) ⟨by omega, fun z hz => by have := hba z hz; omega⟩ ht256 (by omega) (by omega)) ?_)))))
                rintro v ⟨hhB, ccB⟩ ⟨ba', hB4, hba', hKb⟩
                refine rN (kO (kO (kN ?_)))
                have hccB := hKb.1
                dsimp only at hccB
                have hn2 : cc2 ∉ W' := fun m => by rcases hW3 _ m with q | q; (exact hnbW q); omega
                have hkb : ∀ z, z < ccS → z ≠ cc2 → z ∉ own ba → hhB.get z = hhS.get z := fun z h1 h2 h3 => (hKb.2 z (by omega) (by simp [h2, h3])).trans (hkeep2 z h1)
                refine ⟨_, ?_, u', out ++ t, W', ba', n + n', rfl, by omega, Ho hl ⟨rfl, rfl, rfl, trivial⟩, hU3.move (fun z hz => hkb z (hWc z hz).2 (fun e => hn2 (e ▸ hz)) (fun m => hbaW z m hz)), hR3.move (hkb r (by omega) hrn hrba), hB4, fun rr q => hRuns rr (.more hfin ?_ q), ?_, fun z hz => by have := hWc z hz; dsimp only; omega, fun z hz => ?_, by dsimp only; omega, ?_⟩
                · rcases Nat.eq_zero_or_pos n' with q | q; (have := hsp.2.1 q; subst q; omega); omega
                · simp only [withStep, hres, if_true, hr5]
                · rw [if_neg (by omega), List.length_append]; omega
                · have h1 := hba' z hz; refine ⟨by omega, by dsimp only at *; omega, fun m => ?_⟩; have := hWc z m; omega
                · have k1 := ((((hKK.up (by omega)).call hKs (fun z hz => by simp only [List.mem_cons] at hz; left; rcases hz with q | q; (subst q; omega); (exact (hW z q).1))).up (c3 := ccS + 3 + 3 + 3 + 8) (by omega)).call hKg (by simp)).call hKo (by simp)
                  exact ((k1.up (by omega)).call hKb (fun z hz => by simp only [List.mem_cons] at hz; left; rcases hz with q | q; (subst q; omega); (exact (hba z q).1))).up (by omega)
            · try simp only [dz, dy] at hw
              refine rK (kO (kO (kN ?_)))
              refine ⟨_, ?_, u', out, W', ba, n + n', rfl, by omega, Ho hl ⟨rfl, rfl, rfl, trivial⟩, hU3, hR3, hB3, fun rr q => hRuns rr (.more hfin ?_ q), ?_, fun z hz => by have := hWc z hz; dsimp only; omega, fun z hz => by have := hba z hz; exact ⟨this.1, by dsimp only; omega, hbaW z hz⟩, by dsimp only; omega, ((hKK.up (by omega)).call hKs (fun z hz => by simp only [List.mem_cons] at hz; left; rcases hz with q | q; (subst q; omega); (exact (hW z q).1))).up (by omega)⟩
              · rcases Nat.eq_zero_or_pos n' with q | q; (have := hsp.2.1 q; subst q; omega); omega
              · simp only [withStep, hres]; rw [if_neg (by omega)]
              · split
                · rename_i q; rcases hsd.1 q with q2 | q2; (rw [if_pos q2] at hbd; omega); (split at hbd <;> omega)
                · split at hbd <;> omega
    · have hme_ := hme
      try simp only [dz] at hme_
      refine qS hl rfl rfl rfl rfl (by rw [hme]; decide) ?_
      refine q_skipW hl rfl rfl rfl rfl (by rw [hme]; decide) ?_
      refine qS hl rfl rfl rfl rfl (by rw [hme]; decide) ?_
      refine qQ hl rfl rfl rfl (if_neg (by rw [hme]; decide)) ?_
      refine nK (rF hl rfl (by first | rfl | (simp only [dz]; omega) | (simp; done) | (simp; omega)) ?_)
      refine rK (kN (sg 8 rfl ?_))
      have hfin : withFin (u, out) (all.drop n) = false := by simp only [withFin]; rw [show u.mayEnd = false from hme]; rfl
      refine qM hl rfl (qM hl rfl (qC hl rfl (CR.mono ((unStep_cr H.h hU2 hR2 ⟨by omega, fun z hz => by have := hW z hz; omega⟩).mono (fun v st q => UnPost.tup q)) ?_)))
      rintro v ⟨hhS, ccS⟩ ⟨w, e, rfl, hq⟩
      refine qM hl rfl ?_
      obtain ⟨hcase, hKs⟩ := hq.split
      have hccS := hKs.1
      dsimp only at hccS hcase
      refine qE hl rfl rfl (qE hl rfl rfl (qA hl rfl (qA hl rfl (nK (rB (sg 3 rfl (qM hl rfl (qB hl rfl rfl rfl (qA hl rfl (nK ?_))))))))))
      refine rC hl rfl (fun h3 => ?_) (fun h3 => ?_)
      · try simp only [dz, dy] at h3
        refine sg 2 rfl (qA hl rfl (qA hl rfl (nK (rR (k_bloR (k_bloR (kR (k_bloR (f_2 hl rfl (.inl rfl) rfl rfl ?_)))))))))
        rcases hcase with ⟨hres, hne⟩ | ⟨u', n', hres, he, _⟩
        · refine ⟨⟨.error 24, hRuns _ (.fail hfin ?_), rfl⟩, ?_⟩
          · simp only [withStep, hres]; rw [if_pos (by omega)]
          · exact ((hKK.up (by omega)).call hKs (fun z hz => by simp only [List.mem_cons] at hz; left; rcases hz with q | q; (subst q; omega); (exact (hW z q).1))).up (by omega)
        · omega
      · try simp only [dz, dy] at h3
        refine sg 3 rfl (qM hl rfl (qB hl rfl rfl rfl (qA hl rfl (nK ?_))))
        refine rC hl rfl (fun h0 => ?_) (fun h0 => ?_)
        · try simp only [dz, dy] at h0
          refine sg 3 rfl (qM hl rfl (qA hl rfl (qA hl rfl (nK (rR (k_bloR (k_bloR (kR (k_bloR (f_2 hl rfl (.inl rfl) rfl rfl ?_))))))))))
          rcases hcase with ⟨hres, hne⟩ | ⟨u', n', hres, he, _⟩
          · refine ⟨⟨.error e, hRuns _ (.fail hfin ?_), rfl⟩, ?_⟩
            · simp only [withStep, hres]; rw [if_neg (by omega)]
            · exact ((hKK.up (by omega)).call hKs (fun z hz => by simp only [List.mem_cons] at hz; left; rcases hz with q | q; (subst q; omega); (exact (hW z q).1))).up (by omega)
          · simp at h0; omega
        · try simp only [dz, dy] at h0
          rcases hcase with ⟨hres, hne⟩ | ⟨u', n', hres, he, hR3, W', hU3, hW3⟩
          · simp at h0; omega
          have hsp := Un.step_pend hres hdue
          have hsd := Un.step_due hres
          have hpl3 := hU3.pend_le
          have hbm : ∀ z, z = cc2 ∨ z ∈ own ba → hhS.get z = h2.get z := fun z hz => hKs.2 z (by rcases hz with q | q; omega; have := hba z q; omega) (by simp only [List.mem_cons, not_or]; rcases hz with q | q; (subst q; exact ⟨hrn.symm, hnbW⟩); (exact ⟨fun e => hrba (e ▸ q), (hba z q).2.2⟩))
          have hB3 := hB2.move (g' := hhS.get) hbm
          have hWc : ∀ z ∈ W', c ≤ z ∧ z < ccS := fun z hz => by rcases hW3 z hz with q | q; (have := hW z q; omega); omega
          have hbaW : ∀ z ∈ own ba, z ∉ W' := fun z hz hm => by rcases hW3 z hm with q | q; (exact (hba z hz).2.2 q); (have := hba z hz; omega)
          rw [hln] at hsp
          refine sg 3 rfl (qM hl rfl (qB hl rfl rfl rfl (qA hl rfl (nK ?_))))
          refine rC hl rfl (fun hw => ?_) (fun hw => ?_)
          · try simp only [dz, dy] at hw
            have hw1 : w = 1 := by omega
            subst hw1
            have hd2 := hsd.2 rfl
            rw [if_pos hd2.1] at hbd
            have hg3 := hU3.1.2.2.2.2.2.2.2
            refine sg 8 rfl (qM hl rfl (qC hl rfl (CR.mono (unGot_cr H.h hU3 (by have := hWc b (by obtain ⟨_, _, _, _, _, q⟩ := hU3; rw [q]; simp); omega)) ?_)))
            rintro v ⟨hhG, ccG⟩ ⟨rfl, hKg⟩
            refine qC hl rfl (CR.mono (open_cr2 H hg3.1 hg3.2.1 (hsp.2.2 rfl) hg3.2.2) ?_)
            rintro v ⟨hhO, ccO⟩ ⟨T, e5, rfl, ho5, hKo⟩
            refine qM hl rfl ?_
            have hccG := hKg.1
            have hccO := hKo.1
            dsimp only at hccG hccO
            refine qE hl rfl rfl (qE hl rfl rfl (qA hl rfl (qA hl rfl (nK (rS (sg 2 rfl (qM hl rfl (qB hl rfl rfl rfl (nK ?_)))))))))
            refine rC hl rfl (fun h5 => ?_) (fun h5 => ?_)
            · try simp only [dz, dy] at h5
              refine sg 3 rfl (qM hl rfl (qA hl rfl (qA hl rfl (nK (rR (kR (k_bloR (k_bloR (kR (k_bloR (f_2 hl rfl (.inl rfl) rfl rfl ?_)))))))))))
              rcases ho5 with ⟨hne5, hr5⟩ | ⟨he5, _⟩
              · refine ⟨⟨.error e5, hRuns _ (.fail hfin ?_), ?_⟩, ?_⟩
                · simp only [withStep, hres, if_true, hr5]
                · rfl
                · exact (((((hKK.up (by omega)).call hKs (fun z hz => by simp only [List.mem_cons] at hz; left; rcases hz with q | q; (subst q; omega); (exact (hW z q).1))).up (c3 := ccS + 3 + 3 + 3 + 8) (by omega)).call hKg (by simp)).call hKo (by simp)).up (by omega)
              · simp at h5; omega
            · try simp only [dz, dy] at h5
              rcases ho5 with ⟨hne5, _⟩ | ⟨he5, t, hr5, rfl, ht256, htl⟩
              · simp at h5; omega
              have hkeep2 : ∀ z, z < ccS → hhO.get z = hhS.get z := fun z hz => (hKo.2 z (by omega) (by simp)).trans (hKg.2 z (by omega) (by simp))
              refine rK (kN (rg 2 rfl (qM hl rfl (qC hl rfl (CR.mono (buWrite_cr H (hB3.move (g' := hhO.get) (fun z hz => hkeep2 z (by rcases hz with q | q; omega; have := hba z q; omega))) ⟨by omega, fun z hz => by have := hba z hz; omega⟩ ht256 (by omega) (by omega)) ?_)))))
              rintro v ⟨hhB, ccB⟩ ⟨ba', hB4, hba', hKb⟩
              refine rN (kO (kO (kN ?_)))
              have hccB := hKb.1
              dsimp only at hccB
              have hn2 : cc2 ∉ W' := fun m => by rcases hW3 _ m with q | q; (exact hnbW q); omega
              have hkb : ∀ z, z < ccS → z ≠ cc2 → z ∉ own ba → hhB.get z = hhS.get z := fun z h1 h2 h3 => (hKb.2 z (by omega) (by simp [h2, h3])).trans (hkeep2 z h1)
              refine ⟨_, ?_, u', out ++ t, W', ba', n + n', rfl, by omega, Ho hl ⟨rfl, rfl, rfl, trivial⟩, hU3.move (fun z hz => hkb z (hWc z hz).2 (fun e => hn2 (e ▸ hz)) (fun m => hbaW z m hz)), hR3.move (hkb r (by omega) hrn hrba), hB4, fun rr q => hRuns rr (.more hfin ?_ q), ?_, fun z hz => by have := hWc z hz; dsimp only; omega, fun z hz => ?_, by dsimp only; omega, ?_⟩
              · rcases Nat.eq_zero_or_pos n' with q | q; (have := hsp.2.1 q; subst q; omega); omega
              · simp only [withStep, hres, if_true, hr5]
              · rw [if_neg (by omega), List.length_append]; omega
              · have h1 := hba' z hz; refine ⟨by omega, by dsimp only at *; omega, fun m => ?_⟩; have := hWc z m; omega
              · have k1 := ((((hKK.up (by omega)).call hKs (fun z hz => by simp only [List.mem_cons] at hz; left; rcases hz with q | q; (subst q; omega); (exact (hW z q).1))).up (c3 := ccS + 3 + 3 + 3 + 8) (by omega)).call hKg (by simp)).call hKo (by simp)
                exact ((k1.up (by omega)).call hKb (fun z hz => by simp only [List.mem_cons] at hz; left; rcases hz with q | q; (subst q; omega); (exact (hba z q).1))).up (by omega)
          · try simp only [dz, dy] at hw
            refine rK (kO (kO (kN ?_)))
            refine ⟨_, ?_, u', out, W', ba, n + n', rfl, by omega, Ho hl ⟨rfl, rfl, rfl, trivial⟩, hU3, hR3, hB3, fun rr q => hRuns rr (.more hfin ?_ q), ?_, fun z hz => by have := hWc z hz; dsimp only; omega, fun z hz => by have := hba z hz; exact ⟨this.1, by dsimp only; omega, hbaW z hz⟩, by dsimp only; omega, ((hKK.up (by omega)).call hKs (fun z hz => by simp only [List.mem_cons] at hz; left; rcases hz with q | q; (subst q; omega); (exact (hW z q).1))).up (by omega)⟩
            · rcases Nat.eq_zero_or_pos n' with q | q; (have := hsp.2.1 q; subst q; omega); omega
            · simp only [withStep, hres]; rw [if_neg (by omega)]
            · split
              · rename_i q; rcases hsd.1 q with q2 | q2; (rw [if_pos q2] at hbd; omega); (split at hbd <;> omega)
              · split at hbd <;> omega
  · simp only [if_neg hu] at hN ⊢
    refine e_2 Tryz.func12 rfl (H.h _ (by decide)) Tryz.ntmps12 (by decide) ?_
    intro env hl
    refine sg 2 rfl (qA hl rfl (qA hl rfl (nK (sg 7 rfl (qM hl rfl (qC hl rfl (CR.mono (hN _) ?_)))))))
    rintro v ⟨hh1, cc1⟩ ⟨rfl, hK⟩
    refine qM hl rfl (qE hl rfl rfl (qE hl rfl rfl (qA hl rfl (qA hl rfl (nK (rS (sg 2 rfl (qM hl rfl (qB hl rfl rfl rfl (nK (rT hl rfl (by first | rfl | (simp only [dz]; omega) | (simp; done) | (simp; omega)) ?_)))))))))))
    refine sg 3 rfl (qM hl rfl (qA hl rfl (qA hl rfl (nK (rR (kR (f_2 hl rfl (.inl rfl) rfl rfl ?_)))))))
    exact ⟨rfl, (hK.base (by omega)).up (by have := hK.1; dsimp only at *; omega)⟩
end
end Go.Proofs.YtegjkhgaoabfcaaGreat
