/- Part 12 (a part of the proof of UnstreamWith; no condition). -/
import Derived.KernelRfl
import Derived.Laws.Externs
import Derived.Laws.IdiomCopy
import Derived.Lib.Builder
import Derived.Lib.Slices
import Derived.Lib.Strings
import Derived.Lib.UnsafeStr
import Derived.Lib.Walk
import Derived.Shelf.RegionOpenPlain
import Derived.Test.YtegjkhgaoabfcaaGreatProg
import Derived.Test.YtegjkhgaoabfcaaGreatWh
import Derived.Test.YtegjkhgaoabfcaaGreatWk
import Derived.WalkKit
set_option linter.unusedSimpArgs false
set_option linter.unusedVariables false
set_option maxRecDepth 10000
namespace Go.Proofs.YtegjkhgaoabfcaaGreat
open Go.AE
section
variable {ov : OvT} (H : OvH ov)
include H
theorem rWith_cr {h : Heap} {c unit : Nat} {s : ByteArray} (hs : s.size ≤ 1000) (hu : 24 ≤ unit ∧ unit ≤ 100000) :
    CR Tryz.prog ov 14 [nv unit, .string s] ⟨h, c⟩ (fun v st => (∃ r, WithR unit (bitsL s.data.toList) r ∧ (match r with
      | .ok (p, _) => v = .agg #[.string (txt p.2), nv 0]
      | .error e => v = .agg #[nostr, nv e])) ∧ Keep [] h c st) := by
  obtain ⟨ALL, hA⟩ : ∃ ALL, ALL = bitsL s.data.toList := ⟨_, rfl⟩
  have hAl : ALL.length = 8 * s.size := by rw [hA, bitsL_length]; have h1 : s.data.toList.length = s.size := Array.length_toList; rw [h1]
  rw [← hA]
  have hsz : (zs ALL).size = ALL.length := by rw [txt_size, zl_len]
  refine e_2 Tryz.func14 rfl (H _ (by decide)) Tryz.ntmps14 (by decide) ?_
  intro env hl
  refine sg 1 rfl (qZ i28 z28 rfl (nK (sg 3 rfl (qM hl rfl (qC hl rfl (CR.mono (rBits_cr H (by omega)) ?_))))))
  rintro v ⟨hh1, cc1⟩ ⟨rfl, rfl, hk1⟩
  dsimp only at hk1
  rw [← hA]
  refine qA hl rfl (nK (sg 1 rfl (qA hl rfl (nK (sg 1 rfl (qA hl rfl (nK (rS (sg 4 rfl (qM hl rfl (qK hl rfl Tryz.underlying9 (qP hl rfl rfl (by first | exact wI (by omega) | exact wU (by omega) | exact wB (by omega) | exact wL (by omega) | rfl) ?_))))))))))))
  refine qM hl rfl (nK (rB ?_))
  refine rL (fun m env' s' => ∃ (i n : Nat) (t : List Nat) (u : Un), m = s.size + 1 - i ∧ i ≤ s.size + 1 ∧ 8 * i ≤ n ∧ n ≤ ALL.length ∧ n % 8 = 0 ∧ Hd 69 [(0, nv unit), (4, ptr c), (5, .string (zs ALL)), (6, .string (txt t)), (7, nv n), (15, nv (s.size + 1)), (16, nv i)] env' ∧ t.length ≤ 225900000 * n ∧ u.due = 0 ∧ u.at_ = 0 ∧ u.unit = unit ∧ (u.ended = true → n < ALL.length) ∧ (∀ rr, RunW ALL u t n rr → WithR unit ALL rr) ∧ s'.heap.get c = some ⟨[nostr, nv 0], 28, 0⟩ ∧ c + 1 ≤ s'.ctr ∧ Keep [] h c s') (s.size + 1) ?_ ?_
  · refine ⟨0, 0, [], Un.new unit, rfl, Nat.zero_le _, Nat.zero_le _, Nat.zero_le _, rfl, Ho hl ⟨rfl, rfl, rfl, rfl, rfl, rfl, rfl, trivial⟩, Nat.zero_le _, rfl, rfl, rfl, fun q => (by simp [Un.new] at q), fun rr q => q, ?_, by dsimp only; omega, ((Keep.refl (Nat.le_refl c)).set (.inl (by omega))).up (by omega)⟩
    dsimp only; rw [T.get_set, if_pos (by omega)]; rfl
  rintro m _ ⟨h2, c2⟩ ⟨i, n, t, u, rfl, hi, hin, hnl, hn8, ⟨env, hl, rfl⟩, htl, u1, u2, u3, u4, hRed, hb4, hc2, hK⟩
  dsimp only at hb4 hc2
  refine sg 1 rfl (qB hl rfl rfl rfl (nK (rS ?_)))
  refine rC hl rfl (fun hilt => ?_) (fun hilt => ?_)
  · try simp only [dz, dy] at hilt
    refine rK (kN (rS (rB (rS (sg 5 rfl (qM hl rfl (qM hl rfl (qT (s := zl ALL) n (zl ALL).length hl rfl Tryz.underlying9 rfl rfl ⟨by rw [zl_len]; omega, Nat.le_refl _⟩ ?_))))))))
    rw [zl_rest]
    refine qC hl rfl (CR.mono (rBegins22_cr H (M := ALL.drop n) (by rw [List.length_drop]; omega)) ?_)
    rintro v ⟨hh3, cc3⟩ ⟨rfl, rfl, hk3⟩
    dsimp only at hk3
    have hbg := beg_law (ALL := ALL) (k := n) (out := t) 4 0 u rfl (by omega) u1 u2 (fun _ q => by have := u4 q; rw [List.length_drop]; omega)
    simp only [Nat.mul_zero, Nat.add_zero] at hbg
    refine qA hl rfl (nK (sg 2 rfl (qM hl rfl (qB hl rfl rfl rfl (nK ?_)))))
    refine rC hl rfl (fun hbad => ?_) (fun hbad => ?_)
    · try simp only [dz, dy] at hbad
      refine sg 3 rfl (qM hl rfl (qU hl rfl i28 z28 rfl (by simp [Program.built, Instr.fill, Tryz.underlying28, Value.cells]; rfl) ?_))
      refine qV hl rfl rfl (by first | assumption | (simp only [gs]; rfl) | (simp [gs]; try rfl)) p28 rfl rfl (by simp [Value.cells]) ?_
      refine nK (rR (kR (k_bloR (kR (kR (k_bloR (kR (f_c hl rfl (.inl rfl) rfl  (T.get_set _ _ _ _ |>.trans (if_pos rfl)) ((p28.1 _ _).trans rfl) ?_))))))))
      have hb0 : begR (ALL.drop n) 4 0 ≠ 0 := by intro q; rw [q] at hbad; simp at hbad
      exact ⟨⟨.error _, hRed _ (hbg.2 hb0), rfl⟩, (hK.set (.inl (by omega))).up (by omega)⟩
    · try simp only [dz, dy] at hbad
      have hb0 : begR (ALL.drop n) 4 0 = 0 := by simp at hbad; omega
      obtain ⟨b1, b2, b3⟩ := begR_ok hb0
      rw [List.length_drop] at b1
      obtain ⟨lv, hlv⟩ : ∃ lv, lv = num (((ALL.drop n).drop 24).take 8) - 48 := ⟨_, rfl⟩
      refine rK (kN (sg 10 rfl (qM hl rfl (qM hl rfl (qP hl rfl rfl (by first | exact wI (by omega) | exact wU (by omega) | exact wB (by omega) | exact wL (by omega) | rfl) ?_)))))
      refine qM hl rfl (qP hl rfl rfl (by first | exact wI (by omega) | exact wU (by omega) | exact wB (by omega) | exact wL (by omega) | rfl) ?_)
      refine qT (s := zl ALL) (n + 24) (n + 32) hl rfl Tryz.underlying9 rfl rfl ⟨by omega, by rw [zl_len]; omega⟩ ?_
      rw [zl_sub, show n + 32 - (n + 24) = 8 by omega, ← List.drop_drop]
      refine qC hl rfl (CR.mono (rNumber_cr H (L := ((ALL.drop n).drop 24).take 8) (by rw [List.length_take]; omega)) ?_)
      rintro v ⟨hh5, cc5⟩ ⟨rfl, rfl, hk5⟩
      dsimp only at hk5
      refine qH hl rfl Tryz.underlying38 Tryz.underlying3 (by first | exact wI (by omega) | exact wU (by omega) | exact wB (by omega) | exact wL (by omega) | rfl) ?_
      refine q_sub hl rfl rfl (m := (lv : Int)) (by rw [wrapI (by omega) (by omega)]; omega) ?_
      refine qA hl rfl (nK (sg 10 rfl (qM hl rfl (qM hl rfl (qP hl rfl rfl (by first | exact wI (by omega) | exact wU (by omega) | exact wB (by omega) | exact wL (by omega) | rfl) ?_)))))
      refine qT (s := zl ALL) (n + 32) (zl ALL).length hl rfl Tryz.underlying9 rfl rfl ⟨by rw [zl_len]; omega, Nat.le_refl _⟩ ?_
      rw [zl_rest]
      have hm1 : lv * unit ≤ 9 * 100000 := Nat.mul_le_mul (by omega) hu.2
      have hm2 : 1 * 24 ≤ lv * unit := Nat.mul_le_mul (by omega) hu.1
      refine qM hl rfl (qM hl rfl (q_mul hl rfl rfl (m := ((lv * unit : Nat) : Int)) (by rw [← Int.natCast_mul]; exact wrapI (by omega) (by omega)) ?_))
      refine qC hl rfl (CR.mono (rOne_cr H (k := n + 32) (u := begun u (ALL.drop n)) (out := t) (room := lv * unit) (by omega) (by omega) (by omega) rfl rfl rfl (by rw [hlv, ← u3]; rfl)) ?_)
      rintro v ⟨hh6, cc6⟩ ⟨t2, b2', e1, rfl, hcase, hK1⟩
      have hcc1 := hK1.1
      dsimp only at hcc1 hcase
      refine qZ i114 z114 rfl (qV hl rfl rfl (by first | assumption | (simp only [gs]; rfl) | (simp [gs]; try rfl)) p114 rfl rfl (by simp [Value.cells]) ?_)
      refine ro_gen (fun H6 hH6 => ?_)
      have hx6 : ∀ x, x ≠ cc5 + 8 → H6.get x = hh6.get x := fun x hx => by rw [hH6]; simp only [T.get_set]; rw [if_neg (by omega), if_neg (by omega)]
      have hb10 : H6.get (cc5 + 8) = some ⟨[.string (txt t2), nv b2', nv e1], 114, 0⟩ := by rw [hH6, T.get_set, if_pos (by omega)]; rfl
      have hlow : ∀ x, x < c2 → H6.get x = h2.get x := fun x hx => (hx6 x (by omega)).trans (hK1.2 x (by omega) (by simp))
      have hb46 := (hlow c (by omega)).trans hb4
      have hK6 : Keep [] h c ⟨H6, cc6⟩ := ⟨by dsimp only; omega, fun x hx _ => (hlow x (by omega)).trans (hK.2 x hx (by simp))⟩
      refine nK (rS (sg 3 rfl (qF hl rfl fa114_2 (qL hl rfl (by first | assumption | (simp only [gs]; rfl) | (simp [gs]; try rfl)) ((p3.1 _ _).trans rfl) ?_))))
      refine qB hl rfl rfl rfl (nK ?_)
      refine rC hl rfl (fun herr => ?_) (fun herr => ?_)
      · try simp only [dz, dy] at herr
        refine sg 4 rfl (qF hl rfl fa114_2 (qL hl rfl (by first | assumption | (simp only [gs]; rfl) | (simp [gs]; try rfl)) ((p3.1 _ _).trans rfl) ?_))
        refine qU hl rfl i28 z28 rfl (by simp [Program.built, Instr.fill, Tryz.underlying28, Value.cells]; rfl) ?_
        refine qV hl rfl rfl (by first | assumption | (simp only [gs]; rfl) | (simp [gs]; try rfl)) p28 rfl rfl (by simp [Value.cells]) ?_
        refine nK (rR (kR (k_bloR (kR (kR (k_bloR (kR (f_c hl rfl (.inl rfl) rfl  (T.get_set _ _ _ _ |>.trans (if_pos rfl)) ((p28.1 _ _).trans rfl) ?_))))))))
        have hd : e1 ≠ 0 ∧ RunW ALL (begun u (ALL.drop n)) t (n + 32) (.error e1) := by rcases hcase with q | ⟨q, _⟩; exact q; (subst q; simp at herr)
        exact ⟨⟨.error e1, hRed _ (hbg.1 _ hb0 hd.2), rfl⟩, (hK6.set (.inl (by omega))).up (by omega)⟩
      · try simp only [dz, dy] at herr
        obtain ⟨rfl, hn2, hn80, ht2, u', w1, w2, w3, w4, w5⟩ : e1 = 0 ∧ n + 32 + b2' ≤ ALL.length ∧ 80 ≤ b2' ∧ t2.length ≤ 225900000 * b2' ∧ ∃ u' : Un, u'.due = 0 ∧ u'.at_ = 0 ∧ u'.ended = true ∧ u'.unit = (begun u (ALL.drop n)).unit ∧ ∀ rr, RunW ALL u' (t ++ t2) (n + 32 + b2' + (ALL.length - (n + 32 + b2')) % 8) rr → RunW ALL (begun u (ALL.drop n)) t (n + 32) rr := by rcases hcase with ⟨q, _⟩ | q; (exfalso; simp at herr; omega); exact q
        have hat : n + 32 + b2' + (ALL.length - (n + 32 + b2')) % 8 = (n + 32 + b2' + 7) / 8 * 8 := by omega
        rw [hat] at w5
        refine rK (kN (sg 5 rfl (qM hl rfl (qF hl rfl fa114_0 (qL hl rfl (by first | assumption | (simp only [gs]; rfl) | (simp [gs]; try rfl)) ((p9.1 _ _).trans rfl) ?_)))))
        refine qB hl rfl rfl (addS t t2 (by omega)) ?_
        refine qA hl rfl (nK (sg 9 rfl (qM hl rfl (qP hl rfl rfl (by first | exact wI (by omega) | exact wU (by omega) | exact wB (by omega) | exact wL (by omega) | rfl) ?_))))
        refine qF hl rfl fa114_1 (qL hl rfl (by first | assumption | (simp only [gs]; rfl) | (simp [gs]; try rfl)) ((p3.1 _ _).trans rfl) ?_)
        refine qP hl rfl rfl (by first | exact wI (by omega) | exact wU (by omega) | exact wB (by omega) | exact wL (by omega) | rfl) ?_
        refine qP hl rfl rfl (by first | exact wI (by omega) | exact wU (by omega) | exact wB (by omega) | exact wL (by omega) | rfl) ?_
        refine q_quo hl rfl rfl ⟨by omega, by omega⟩ (by first | exact wI (by omega) | exact wU (by omega) | exact wB (by omega) | exact wL (by omega) | rfl) ?_
        refine q_mul hl rfl rfl (by first | exact wI (by omega) | exact wU (by omega) | exact wB (by omega) | exact wL (by omega) | rfl) ?_
        refine qA hl rfl (nK (sg 4 rfl (qM hl rfl (qM hl rfl (qK hl rfl Tryz.underlying9 ?_)))))
        rw [hsz]
        refine qB hl rfl rfl rfl (nK ?_)
        refine rC hl rfl (fun hend => ?_) (fun hend => ?_)
        · try simp only [dz, dy] at hend
          refine sg 3 rfl (qM hl rfl (qU hl rfl i28 z28 rfl (by simp [Program.built, Instr.fill, Tryz.underlying28, Value.cells]; rfl) ?_))
          refine qV hl rfl rfl (by first | assumption | (simp only [gs]; rfl) | (simp [gs]; try rfl)) p28 rfl rfl (by simp [Value.cells]) ?_
          refine nK (rR (k_bloR (kR (kR (k_bloR (kR (f_c hl rfl (.inl rfl) rfl  (T.get_set _ _ _ _ |>.trans (if_pos rfl)) ((p28.1 _ _).trans rfl) ?_)))))))
          have hfin : withFin (u', t ++ t2) (ALL.drop ((n + 32 + b2' + 7) / 8 * 8)) = true := by simp only [withFin, Un.mayEnd, w1, w2, w3, List.length_drop]; simp at hend ⊢; omega
          exact ⟨⟨.ok ((u', t ++ t2), _), hRed _ (hbg.1 _ hb0 (w5 _ (.stop hfin))), rfl⟩, (hK6.set (.inl (by omega))).up (by omega)⟩
        · try simp only [dz, dy] at hend
          refine rK (kO (kN (rg 2 rfl (qP hl rfl rfl (by first | exact wI (by omega) | exact wU (by omega) | exact wB (by omega) | exact wL (by omega) | rfl) ?_))))
          refine qM hl rfl (nK ?_)
          exact ⟨s.size + 1 - (i + 1), by omega, i + 1, (n + 32 + b2' + 7) / 8 * 8, t ++ t2, u', rfl, by omega, by omega, by omega, by omega, Ho hl ⟨rfl, rfl, rfl, rfl, rfl, rfl, rfl, trivial⟩, by rw [List.length_append]; omega, w1, w2, by rw [w4, ← u3]; rfl, fun _ => by omega, fun rr q => hRed rr (hbg.1 rr hb0 (w5 rr q)), hb46, by dsimp only; omega, hK6.up (by omega)⟩
  · try simp only [dz, dy] at hilt
    omega
end
def packN : Nat → List Bool → List Nat
  | 0, _ => []
  | n + 1, l => num (l.take 8) :: packN n (l.drop 8)
theorem packN_snoc : ∀ (n : Nat) (l : List Bool), packN (n + 1) l = packN n l ++ [num ((l.drop (8 * n)).take 8)]
  | 0, l => by simp [packN]
  | n + 1, l => by
    rw [packN, packN_snoc n (l.drop 8), packN, List.cons_append, List.drop_drop, show 8 + 8 * n = 8 * (n + 1) by omega]
theorem packN_len : ∀ (n : Nat) (l : List Bool), (packN n l).length = n
  | 0, _ => rfl
  | n + 1, l => by simp [packN, packN_len n]
section
variable {ov : OvT} (H : OvH ov)
include H
theorem rBytes_cr {h : Heap} {c : Nat} {L : List Bool} (hL : L.length ≤ 1000000) :
    CR Tryz.prog ov 128 [.string (zs L)] ⟨h, c⟩ (fun v st => v = .string (txt (packN (L.length / 8) L)) ∧ Keep [] h c st) := by
  refine e_1 Tryz.func128 rfl (H _ (by decide)) Tryz.ntmps128 (by decide) ?_
  intro env hl
  refine sg 1 rfl (qA hl rfl (nK (sg 1 rfl (qA hl rfl (nK (rS (rB ?_)))))))
  refine rL (fun m env' s' => ∃ j, m = L.length / 8 - j ∧ 8 * j ≤ L.length ∧ Hd 18 [(0, .string (zs (L.drop (8 * j)))), (3, .string (txt (packN j L)))] env' ∧ c ≤ s'.ctr ∧ Keep [] h c s') (L.length / 8) ?_ ?_
  · exact ⟨0, rfl, by omega, Ho hl ⟨rfl, rfl, trivial⟩, by dsimp only; omega, (Keep.refl (Nat.le_refl c)).up (by omega)⟩
  rintro m _ ⟨h2, c2⟩ ⟨j, rfl, hj, ⟨env, hl, rfl⟩, hc2, hK⟩
  dsimp only at hc2
  refine rS (sg 3 rfl ?_)
  have hld : (L.drop (8 * j)).length = L.length - 8 * j := List.length_drop
  refine qM hl rfl (qK hl rfl Tryz.underlying9 ?_)
  rw [txt_size, zl_len]
  refine qB hl rfl rfl rfl (nK ?_)
  refine rC hl rfl (fun h8 => ?_) (fun h8 => ?_)
  · try simp only [dz, dy] at h8
    have e8 := num_lt ((L.drop (8 * j)).take 8)
    rw [List.length_take, Nat.min_eq_left (by omega)] at e8
    obtain ⟨x, hx⟩ : ∃ x, x = num ((L.drop (8 * j)).take 8) := ⟨_, rfl⟩
    have hxn : (UInt8.ofNat x).toNat = x := by simp [UInt8.toNat_ofNat]; omega
    refine rK (kN (rB (sg 9 rfl (qM hl rfl (qM hl rfl (qT (s := zl (L.drop (8 * j))) 0 8 hl rfl Tryz.underlying9 rfl rfl ⟨by omega, by rw [zl_len]; omega⟩ ?_))))))
    rw [zl_sub, List.drop_zero]
    refine qC hl rfl (CR.mono (rNumber_cr H (L := (L.drop (8 * j)).take 8) (by rw [List.length_take]; omega)) ?_)
    rintro v ⟨hh1, cc1⟩ ⟨rfl, rfl, hk⟩
    try dsimp only at hk
    rw [← hx]
    refine qH hl rfl Tryz.underlying38 Tryz.underlying5 (m := (x : Int)) (wrapU8 (by omega) (by omega)) ?_
    refine q1_ hl rfl a102 rfl (qY hl rfl Tryz.underlying102 Tryz.underlying9 Tryz.underlying5 (bs := [UInt8.ofNat x]) (.inr ⟨_, rfl, rfl, by simp only [List.map_cons, List.map_nil, hxn]; exact (T.get_set _ _ _ _).trans (if_pos rfl), by simp, by omega⟩) ?_)
    refine qB hl rfl rfl (addS (packN j L) [x] (by rw [packN_len]; simp; omega)) ?_
    refine qA hl rfl (nK (rg 3 rfl (qM hl rfl (qT (s := zl (L.drop (8 * j))) 8 (zl (L.drop (8 * j))).length hl rfl Tryz.underlying9 rfl rfl ⟨by rw [zl_len]; omega, Nat.le_refl _⟩ ?_))))
    rw [zl_rest, List.drop_drop]
    refine qA hl rfl (rN (kO (kN ?_)))
    exact ⟨L.length / 8 - (j + 1), by omega, j + 1, rfl, by omega, Ho hl ⟨rfl, by rw [packN_snoc, ← hx]; rfl, trivial⟩, by dsimp only; omega, (hK.set (.inl (by omega))).up (by omega)⟩
  · try simp only [dz, dy] at h8
    refine r_exit (kE (kE (kB (kN (sg 2 rfl (qM hl rfl (qA hl rfl (nK (rR (f_1 hl rfl (.inl rfl) rfl ?_))))))))))
    have ej : j = L.length / 8 := by omega
    subst ej
    exact ⟨rfl, hK.up (by omega)⟩
end
end Go.Proofs.YtegjkhgaoabfcaaGreat
namespace Go.Proofs.YtegjkhgaoabfcaaGreat
open Go.RowKit
theorem cells5 : Tryz.prog.cellsOf 5 = 1 := by kernel_rfl
theorem size104 : Tryz.t104.size ≠ 0 := by rw [show Tryz.t104.size = 2 by kernel_rfl]; decide
theorem liesB : liesAt Tryz.prog Tryz.prog.depth 104 (2 / Tryz.prog.cellsOf 104) 0 104 1 = true := by kernel_rfl
set_option maxHeartbeats 1000000 in
set_option maxRecDepth 100000 in
theorem chk_used (b : Nat) (w : World) (h0 : w.cell? ⟨b, 0, none⟩ = some (.pointer (some ⟨b, 0, none⟩))) :
    Calls Tryz.prog 109 #[.pointer (some ⟨b, 0, none⟩)] w fun e w' => e = .returned (.tuple #[]) ∧ w' = w := by
  have hj : Tryz.prog.info? 104 = some Tryz.t104 := by kernel_rfl
  go_enter Tryz.func109, Tryz.ntmps109
  go_wp2
  rw [Lib.run_neq_ptr_same w _ Tryz.underlying101 hj]
  go_wp2
  go_end0
  exact ⟨rfl, rfl⟩
set_option maxHeartbeats 1000000 in
set_option maxRecDepth 100000 in
theorem chk_fresh (b : Nat) (w : World) (h0 : w.cell? ⟨b, 0, none⟩ = some (.pointer none)) (hsh : w.shape? b = some (104, 2)) (hfz : w.frozen? ⟨b, 0, none⟩ = false) :
    Calls Tryz.prog 109 #[.pointer (some ⟨b, 0, none⟩)] w fun e w' => e = .returned (.tuple #[]) ∧ w' = w.setCell ⟨b, 0, none⟩ (.pointer (some ⟨b, 0, none⟩)) := by
  have hj : Tryz.prog.info? 104 = some Tryz.t104 := by kernel_rfl
  go_enter Tryz.func109, Tryz.ntmps109
  go_wp2
  rw [Lib.run_to_unsafe w ⟨b, 0, none⟩ Tryz.underlying101 Tryz.underlying197 hj size104 hsh (Nat.zero_lt_succ 1)]
  simp only [Result.andThen]
  rw [Oper.upon_value]
  go_wp2
  rw [run_callFunc_extern Tryz.func143 (by kernel_rfl) (by kernel_rfl) (by kernel_rfl) (e := Extern.AbiNoEscape.same) (by kernel_rfl)]
  rw [Lib.run_noEscape]
  simp only [Result.andThen]
  rw [Oper.upon_value]
  go_wp2
  rw [Lib.run_from_unsafe w ⟨b, 0, none⟩ Tryz.underlying197 Tryz.underlying101 hj hsh liesB]
  simp only [Result.andThen]
  rw [Oper.upon_value]
  go_wp2
  go_end0
  exact ⟨rfl, rfl⟩
theorem liesAt_off {P : Program} {e : TypeId} (hc : P.cellsOf e = 1) (count n off : Nat) (hn : off + n ≤ count) : liesAt P P.depth e count off e n = true := by
  have hd : P.depth = (2 * (P.types.size + Made.depth) + 1) + 1 := rfl
  rw [hd]
  simp only [liesAt, Bool.or_eq_true]
  left
  rw [hd]
  simp [rowAt, hc, hn, sameLayout, Nat.mod_one]
theorem loadB {P : Program} (w : World) : ∀ (l : List Value) (bs : List UInt8) (a : Addr) (acc : ByteArray), AE.bytesOf l = some bs → (∀ j x, l[j]? = some x → w.cell? (a.add j) = some x) →
    (loadBytes a acc l.length).run P w = .ok ⟨acc.data ++ bs.toArray⟩ w
  | [], bs, a, acc, hb, _ => by simp only [AE.bytesOf, Option.some.injEq] at hb; subst hb; simp [loadBytes]
  | v :: l, bs, a, acc, hb, h => by
    cases v with
    | int k n =>
      cases k with
      | u8 =>
        simp only [AE.bytesOf] at hb
        cases hr : AE.bytesOf l with
        | none => rw [hr] at hb; cases hb
        | some bs' =>
          rw [hr] at hb; simp only [Option.map_some, Option.some.injEq] at hb; subst hb
          have h0 : w.cell? a = some (.int .u8 n) := by
            have := h 0 _ rfl
            simpa [Addr.add] using this
          have ih := loadB (P := P) w l bs' (a.add 1) (acc.push n.toNat.toUInt8) hr (fun j y hy => by
            have := h (j + 1) y (by simpa using hy)
            have e : (a.add 1).add j = a.add (j + 1) := by
              unfold Addr.add
              by_cases hj : j = 0
              · subst hj; simp
              · simp [hj]; omega
            rw [e]; exact this)
          simp only [List.length_cons, loadBytes, Sem.run_bind, run_load, h0, Result.andThen]
          rw [ih]
          congr 1
          apply ByteArray.ext
          simp [ByteArray.push]
      | _ => simp [AE.bytesOf] at hb
    | _ => simp [AE.bytesOf] at hb
theorem str_run {P : Program} (w : World) (pt it ty e : TypeId) (hp : P.underlying pt = some (.pointer e)) (hc : P.cellsOf e = 1) (a : Addr) (cells : Nat) (hsh : w.shape? a.block = some (e, cells)) (l : List Value) (bs : List UInt8) (hb : AE.bytesOf l = some bs) (h0 : l ≠ []) (hn : a.off + l.length ≤ cells) (h63 : l.length ≤ 9223372036854775807)
    (hcell : ∀ j x, l[j]? = some x → w.cell? (a.add j) = some x) :
    (Builtin.unsafeString_ #[pt, it] ty #[.pointer (some a), .int .i64 l.length]).run P w = .ok (.string ⟨bs.toArray⟩) (w.freeze a l.length) := by
  have hl : l.length ≠ 0 := by simpa using h0
  have hlb := loadB (P := P) w l bs a .empty hb hcell
  have hlies := liesAt_off (P := P) hc (cells / P.cellsOf e) l.length a.off (by rw [hc]; simpa using hn)
  have h63' : ¬ (9223372036854775807 : Int) < (l.length : Int) := by omega
  have hdef : Builtin.unsafeString_ #[pt, it] ty #[.pointer (some a), .int .i64 l.length] =
      (do
        let n ← asInt (.int .i64 l.length)
        if n < 0 then runtimePanic (.error "unsafe.String: len out of range")
        if n > IntKind.i64.max then unsupported (.unsafePointer "String: a length above the largest int")
        if n = 0 then pure (.string .empty)
        else if ← variablesAt a (← elemOf pt) n.toNat then do
          let s ← loadBytes a .empty n.toNat
          freeze a n.toNat
          pure (.string s)
        else unsupported (.unsafePointer "String: not so many bytes at ptr")) := rfl
  rw [hdef]
  have hmax : IntKind.i64.max = 9223372036854775807 := rfl
  have hneg : ¬ (l.length : Int) < 0 := by omega
  simp [asInt, asIntOf, hmax, h63', hneg, hl, variablesAt, hsh, elemOf, run_underlying hp, hlies, hlb]
set_option maxHeartbeats 1000000 in
set_option maxRecDepth 100000 in
theorem str_nil (b : Nat) (w : World) (h1 : w.cell? ⟨b, 1, none⟩ = some (.slice none 0 0)) :
    Calls Tryz.prog 63 #[.pointer (some ⟨b, 0, none⟩)] w fun e w' => e = .returned (.string ⟨#[]⟩) ∧ w' = w.drew := by
  have c1 : w.drew.cell? ⟨b, 1, none⟩ = some (.slice none 0 0) := h1
  have hUS : ∀ (W : World) (q : Option Addr), (Builtin.unsafeString_ #[156, 3] 9 #[.pointer q, .int .i64 0]).run Tryz.prog W = .ok (.string .empty) W := fun W q => Lib.run_unsafeString_none W _ _ _ q
  have hSD : (Builtin.unsafeSliceData_ #[102] 156 #[.slice none 0 0]).run Tryz.prog w.drew = .ok (.pointer none) w.drew := rfl
  have mixed : Tryz.prog.follows .mixedOrders = true := by kernel_rfl
  go_enter Tryz.func63, Tryz.ntmps63
  go_wp2
  go_region_o
  all_goals (go_wp2; go_ret; exact ⟨rfl, rfl⟩)
set_option maxHeartbeats 1000000 in
set_option maxRecDepth 100000 in
theorem str_row (b : Nat) (a : Addr) (C N : Nat) (l : List Value) (bs : List UInt8) (w : World) (h1 : w.cell? ⟨b, 1, none⟩ = some (.slice (some a) l.length C)) (hC : C ≠ 0) (hb : AE.bytesOf l = some bs) (h0 : l ≠ []) (hsh : w.shape? a.block = some (5, N)) (hn : a.off + l.length ≤ N) (h63 : l.length ≤ 9223372036854775807)
    (hcell : ∀ j x, l[j]? = some x → w.cell? (a.add j) = some x) :
    Calls Tryz.prog 63 #[.pointer (some ⟨b, 0, none⟩)] w fun e w' => e = .returned (.string ⟨bs.toArray⟩) ∧ w' = w.drew.freeze a l.length := by
  have c1 : w.drew.cell? ⟨b, 1, none⟩ = some (.slice (some a) l.length C) := h1
  have hSD : (Builtin.unsafeSliceData_ #[102] 156 #[.slice (some a) l.length C]).run Tryz.prog w.drew = .ok (.pointer (some a)) w.drew := Lib.run_unsafeSliceData_row _ _ _ _ _ _ hC
  have hUS : (Builtin.unsafeString_ #[156, 3] 9 #[.pointer (some a), .int .i64 l.length]).run Tryz.prog w.drew = .ok (.string ⟨bs.toArray⟩) (w.drew.freeze a l.length) :=
    str_run w.drew 156 3 9 5 Tryz.underlying156 cells5 a N hsh l bs hb h0 hn h63 hcell
  have mixed : Tryz.prog.follows .mixedOrders = true := by kernel_rfl
  go_enter Tryz.func63, Tryz.ntmps63
  go_wp2
  go_region_o
  all_goals (go_wp2; go_ret; exact ⟨rfl, rfl⟩)
end Go.Proofs.YtegjkhgaoabfcaaGreat
namespace Go.Proofs.YtegjkhgaoabfcaaGreat
open Go.AE Go.RowKit
theorem frz (w : World) (a : Addr) (n : Nat) : (w.freeze a n).os = w.os ∧ (w.freeze a n).tape = w.tape ∧ (w.freeze a n).output = w.output ∧ (w.freeze a n).heap.size = w.heap.size ∧ ∀ B, B ≠ a.block → (w.freeze a n).heap[B]? = w.heap[B]? := by
  unfold World.freeze
  split
  · exact ⟨rfl, rfl, rfl, rfl, fun _ _ => rfl⟩
  · exact ⟨rfl, rfl, rfl, by simp, fun B hB => by simp only [Array.getElem?_modify]; rw [if_neg (fun e => hB e.symm)]⟩
theorem var_at {ρ : Ren} {g : Nat → Option Blk} {w : World} (hR : R ρ g w) {b : Nat} {blk : Blk} (hb : g b = some blk) (h0 : blk.es = 0) {v : Value} (hv : VR ρ (.pointer (some ⟨b, 0, none⟩)) v) :
    ∃ r, ρ b = some r ∧ BR ρ w r blk ∧ r.δ = 0 ∧ r.N = blk.cells.length ∧ v = .pointer (some ⟨r.B, 0, none⟩) := by
  obtain ⟨r, h1, h2⟩ := hR.live b blk hb
  obtain ⟨d, n⟩ := h2.1.2 h0
  refine ⟨r, h1, h2, d, n, ?_⟩
  cases hv with
  | ptr h =>
    obtain ⟨r', e1, e2, _⟩ := h
    dsimp only at e1 e2
    rw [h1] at e1; cases e1
    rw [e2, d]
theorem bytesOf_get : ∀ {cs : List Value} {bs : List UInt8} {j : Nat} {x : Value}, bytesOf cs = some bs → cs[j]? = some x → ∃ m, x = .int .u8 m
  | [], _, _, _, _, h => by simp at h
  | v :: cs, bs, j, x, hb, h => by
    cases v with
    | int k m =>
      cases k with
      | u8 =>
        cases j with
        | zero => simp at h; exact ⟨m, h.symm⟩
        | succ j =>
          simp only [bytesOf] at hb
          cases hr : bytesOf cs with
          | none => rw [hr] at hb; cases hb
          | some bs' => exact bytesOf_get hr (by simpa using h)
      | _ => simp [bytesOf] at hb
    | _ => simp [bytesOf] at hb
theorem args1 {ρ : Ren} {x : Value} {a : Array Value} (h : LR ρ [x] a.toList) : ∃ y, a = #[y] ∧ VR ρ x y := by
  obtain ⟨y, ys, e, h1, h2⟩ := h.cons_inv
  have := h2.nil_inv
  subst this
  exact ⟨y, by apply Array.ext'; simpa using e, h1⟩
theorem str_ok {args : List Value} {s s' : St} {v : Value} (h : strB args s = some (v, s')) : s.ctr ≤ s'.ctr ∧ ∀ ρ w (args' : Array Value), R ρ s.heap.get w → Fr ρ s → LR ρ args args'.toList →
      Calls Tryz.prog 63 args' w fun e w' => ∃ ρ' v', e = .returned v' ∧ VR ρ' v v' ∧ Step ρ s.heap.get w ρ' s'.heap.get w' (Nw s s') := by
  unfold strB at h
  split at h
  · rename_i b
    split at h
    · rename_i p e hb
      cases h
      refine ⟨Nat.le_refl _, fun ρ w args' hR hF hA => ?_⟩
      obtain ⟨y, rfl, hy⟩ := args1 hA
      obtain ⟨r, r1, r2, r3, r4, rfl⟩ := var_at hR hb rfl hy
      obtain ⟨v', c1, c2⟩ := r2.cell (i := 1) (by simp)
      rw [r3] at c1
      have hv : v' = .slice none 0 0 := by simp only [List.getD] at c2; cases c2; rfl
      subst hv
      refine (str_nil r.B w (by simpa using c1)).mono ?_
      rintro e w' ⟨rfl, rfl⟩
      exact ⟨ρ, _, rfl, .str _, Ren.le_refl _, ⟨rfl, rfl, rfl, Nat.le_refl _⟩, ⟨hR.live, hR.inj, hR.lt⟩, fun _ _ _ => rfl, fun _ q => .inl q, fun _ _ => rfl, fun x blk q => .inr ⟨blk, q⟩⟩
    · rename_i p a n cp e hb
      split at h
      · rename_i cs e2 ha
        split at h
        · rename_i hc
          obtain ⟨rfl, hn, hn0, hn9⟩ := hc
          cases hby : bytesOf cs with
          | none => rw [hby] at h; cases h
          | some bs =>
            rw [hby] at h; simp only [Option.map_some, Option.some.injEq, Prod.mk.injEq] at h
            obtain ⟨rfl, rfl⟩ := h
            refine ⟨Nat.le_refl _, fun ρ w args' hR hF hA => ?_⟩
            obtain ⟨y, rfl, hy⟩ := args1 hA
            obtain ⟨r, r1, r2, r3, r4, rfl⟩ := var_at hR hb rfl hy
            obtain ⟨v', c1, c2⟩ := r2.cell (i := 1) (by simp)
            rw [r3] at c1
            obtain ⟨q, q1, q2⟩ := hR.live a _ ha
            obtain ⟨C, hC, hv⟩ : ∃ C, C ≠ 0 ∧ v' = .slice (some ⟨q.B, q.δ, none⟩) n C := by
              simp only [List.getD] at c2
              cases c2 with
              | slice h1 h2 h3 =>
                rename_i A C
                have hC : C ≠ 0 := by omega
                obtain ⟨q', e1, e3, _⟩ := h3 hC
                dsimp only at e1 e3
                rw [q1] at e1; cases e1
                exact ⟨C, hC, by rw [e3]; rfl⟩
            subst hv
            obtain ⟨⟨es1, _⟩, cells, fz, k1, k2, k3, k4, k5⟩ := id q2
            dsimp only at k1 k4 k5
            subst hn
            have hcell : ∀ j x, cs[j]? = some x → w.cell? ((⟨q.B, q.δ, none⟩ : Addr).add j) = some x := by
              intro j x hx
              have hj := (List.getElem?_eq_some_iff.mp hx).1
              obtain ⟨v2, d1, d2⟩ := q2.cell (i := j) (by dsimp only; exact hj)
              rw [addr_add, d1]
              have hxx : (Blk.mk cs 5 1).cells.getD j undef = x := by simp only [List.getD, hx, Option.getD_some]
              rw [hxx] at d2
              have hi := bytesOf_get hby hx
              obtain ⟨m, rfl⟩ := hi
              cases d2; rfl
            refine (str_row r.B ⟨q.B, q.δ, none⟩ C q.N cs bs w (by simpa using c1) hC hby (by intro e; subst e; exact hn0 rfl) (by simp [World.shape?, k1, k2]) k4 hn9 hcell).mono ?_
            · rintro e w' ⟨rfl, rfl⟩
              obtain ⟨f1, f2, f3, f4, f5⟩ := frz w.drew ⟨q.B, q.δ, none⟩ cs.length
              have dom : ∀ x y, (s.heap.del a).get x = some y → x ≠ a ∧ s.heap.get x = some y := by
                intro x y hx
                rw [T.get_del] at hx
                by_cases e : x = a
                · rw [if_pos e] at hx; cases hx
                · rw [if_neg e] at hx; exact ⟨e, hx⟩
              refine ⟨ρ, _, rfl, .str _, Ren.le_refl _, ⟨f1, f2, f3, Nat.le_of_eq f4.symm⟩, ⟨fun x y hx => ?_, fun x1 x2 y1 y2 z1 z2 g1 g2 => hR.inj _ _ _ _ _ _ (dom _ _ g1).2 (dom _ _ g2).2, fun x z hz => by rw [f4]; exact hR.lt x z hz⟩, fun B hB hf => f5 B (fun e => hf ⟨a, _, q, ha, q1, e.symm⟩), fun B hf => .inl ?_, fun _ _ => rfl, fun x y hx => .inr ⟨y, (dom x y hx).2⟩⟩
              · obtain ⟨d1, d2⟩ := dom x y hx
                obtain ⟨z, z1, z2⟩ := hR.live x y d2
                exact ⟨z, z1, z2.mono (Ren.le_refl _) (f5 z.B (fun e => d1 (hR.inj _ _ _ _ _ _ d2 ha z1 q1 e)))⟩
              · obtain ⟨x, y, z, h1, h2, h3⟩ := hf
                exact ⟨x, y, z, (dom x y h1).2, h2, h3⟩
        · cases h
      · cases h
    · cases h
  · cases h
theorem chk_ok {args : List Value} {s s' : St} {v : Value} (h : chkB args s = some (v, s')) : s.ctr ≤ s'.ctr ∧ ∀ ρ w (args' : Array Value), R ρ s.heap.get w → Fr ρ s → LR ρ args args'.toList →
      Calls Tryz.prog 109 args' w fun e w' => ∃ ρ' v', e = .returned v' ∧ VR ρ' v v' ∧ Step ρ s.heap.get w ρ' s'.heap.get w' (Nw s s') := by
  unfold chkB at h
  split at h
  · rename_i b
    split at h
    · rename_i sl e hb
      split at h
      · rename_i he
        subst he
        cases h
        refine ⟨Nat.le_refl _, fun ρ w args' hR hF hA => ?_⟩
        obtain ⟨y, rfl, hy⟩ := args1 hA
        obtain ⟨r, r1, r2, r3, r4, rfl⟩ := var_at hR hb rfl hy
        obtain ⟨v', c1, c2⟩ := r2.cell (i := 0) (by simp)
        rw [r3] at c1
        have hv : v' = .pointer none := by simp only [List.getD] at c2; cases c2; rfl
        subst hv
        obtain ⟨es1, cells, fz, k1, k2, k3, k4, k5⟩ := id r2
        dsimp only at k1 k4 k5 r4
        have hsz : cells.size = 2 := by rw [k2, r4]; rfl
        refine (chk_fresh r.B w (by simpa using c1) (by simp [World.shape?, k1, hsz]) (r2.frozen (i := 0) (by omega))).mono ?_
        rintro e w' ⟨rfl, rfl⟩
        have hgw : (s.heap.set b ⟨[.pointer (some ⟨b, 0, none⟩), sl], 104, 0⟩).get = fun x => if x = b then some ⟨[.pointer (some ⟨b, 0, none⟩), sl], 104, 0⟩ else s.heap.get x := funext fun x => T.get_set _ _ _ _
        refine ⟨ρ, _, rfl, .tuple rfl (fun i => by simpa using VR.unit), ?_⟩
        dsimp only
        rw [hgw]
        refine Step.write (blk' := ⟨[.pointer (some ⟨b, 0, none⟩), sl], 104, 0⟩) hR hb r1 ⟨⟨es1.1, fun _ => ⟨r3, r4⟩⟩, cells.setIfInBounds 0 (.pointer (some ⟨r.B, 0, none⟩)), fz, ?_, by simpa using k2, k3, k4, ?_⟩ (by simp [World.setCell]) (fun x hx => Below.heap_setCell w ⟨r.B, 0, none⟩ _ x hx) rfl rfl rfl _
        · simp [World.setCell, Array.getElem?_modify, k1]
        · intro i hi
          dsimp only at hi ⊢
          rw [r3, Nat.zero_add]
          simp only [Array.getD_eq_getD_getElem?, Array.getElem?_setIfInBounds]
          match i, hi with
          | 0, _ => simp [hsz]; exact .ptr ⟨r, r1, by simp [r3], rfl⟩
          | 1, _ => have := k5 1 (by simp); rw [r3] at this; simpa [Array.getD_eq_getD_getElem?] using this
      · cases h
    · rename_i b2 sl e hb
      split at h
      · rename_i he
        subst he
        cases h
        refine ⟨Nat.le_refl _, fun ρ w args' hR hF hA => ?_⟩
        obtain ⟨y, rfl, hy⟩ := args1 hA
        obtain ⟨r, r1, r2, r3, r4, rfl⟩ := var_at hR hb rfl hy
        obtain ⟨v', c1, c2⟩ := r2.cell (i := 0) (by simp)
        rw [r3] at c1
        have hv : v' = .pointer (some ⟨r.B, 0, none⟩) := by
          simp only [List.getD] at c2
          obtain ⟨r', h1, _, _, _, h5⟩ := var_at hR hb rfl c2
          rw [r1] at h1; cases h1; exact h5
        subst hv
        refine (chk_used r.B w (by simpa using c1)).mono ?_
        rintro e w' ⟨rfl, rfl⟩
        exact ⟨ρ, _, rfl, .tuple rfl (fun i => by simpa using VR.unit), Step.refl hR _⟩
      · cases h
    · cases h
  · cases h
def theOv (f : FuncId) : Option (List Value → St → Option (Value × St)) := if f = 63 then some strB else if f = 109 then some chkB else none
theorem theOv_ok : OvOK Tryz.prog theOv := by
  intro f g hfg args s v s' h
  unfold theOv at hfg
  split at hfg
  · rename_i e; subst e; cases hfg; exact str_ok h
  · split at hfg
    · rename_i e; subst e; cases hfg; exact chk_ok h
    · cases hfg
theorem theOv_b : OvB theOv := ⟨fun k hk => by
  simp only [List.mem_cons, List.not_mem_nil, or_false, not_or] at hk
  unfold theOv; rw [if_neg hk.2.1, if_neg hk.2.2.1], rfl, rfl, rfl⟩
end Go.Proofs.YtegjkhgaoabfcaaGreat
namespace Go.Proofs.YtegjkhgaoabfcaaGreat
open Go.AE Go.RowKit
structure KE where
  f : FuncId
  pre : Option (TypeId × List Value)
  rest : List Value
  post : Option (TypeId × List Value)
  res : Value
def KE.run (e : KE) (args : List Value) (s : St) : Option (Value × St) :=
  match e.pre with
  | none => match sameCells args e.rest with
    | true => some (e.res, s)
    | false => none
  | some (t, cs) => match args with
    | .slice (some ⟨b, 0, none⟩) n 1 :: r => match s.heap.get b with
      | some ⟨cs2, t2, 1⟩ => match Nat.beq t2 t && sameCells cs2 cs && Nat.beq n cs.length && sameCells r e.rest with
        | true => match e.post with
          | none => some (e.res, s)
          | some (t3, cs3) => some (.slice (some ⟨s.ctr, 0, none⟩) cs3.length 1, ⟨s.heap.set s.ctr ⟨cs3, t3, 1⟩, s.ctr + 1⟩)
        | false => none
      | _ => none
    | _ => none
abbrev Known := List KE
def knows (tab : Known) (f : FuncId) : Option (List Value → St → Option (Value × St)) :=
  match tab.any (fun e => Nat.beq e.f f) with
  | true => some (fun args s => tab.findSome? fun e => match Nat.beq e.f f with
    | true => e.run args s
    | false => none)
  | false => theOv f
theorem same_plain {x y : Value} (h : sameValue x y = true) : x = y := by
  unfold sameValue at h
  split at h
  · simp only [beq_iff_eq] at h; rw [h]
  · simp only [Bool.and_eq_true, decide_eq_true_eq, beq_iff_eq] at h; rw [h.1, h.2]
  · simp only [beq_iff_eq] at h
    congr 1
    apply ByteArray.ext; apply Array.ext'; exact h
  · simp only [decide_eq_true_eq] at h; rw [h]
  · simp only [Bool.and_eq_true, decide_eq_true_eq, beq_iff_eq] at h; rw [h.1.1, h.1.2, h.2]
  · rfl
  · rfl
  · cases h
theorem same_list : ∀ {xs ys : List Value}, sameCells xs ys = true → xs = ys
  | [], [], _ => rfl
  | x :: xs, y :: ys, h => by
    simp only [sameCells, Bool.and_eq_true] at h
    rw [same_plain h.1, same_list h.2]
  | [], _ :: _, h => by simp [sameCells] at h
  | _ :: _, [], h => by simp [sameCells] at h
theorem same_v {x y : Value} (h : sameV x y = true) : x = y := by
  unfold sameV at h
  split at h
  · exact congrArg Value.agg (Array.ext' (same_list h))
  · exact same_plain h
theorem vr_plain {ρ : Ren} {x y : Value} (hx : AE.plainCell x = true) (h : VR ρ x y) : y = x := by
  cases h with
  | bool b => rfl
  | int k n => rfl
  | str s => rfl
  | pnil => rfl
  | ptr h => simp [AE.plainCell] at hx
  | snil => rfl
  | slice h1 h2 h3 => simp [AE.plainCell] at hx
  | func fn hf hc h1 h2 =>
    cases fn <;> simp [AE.plainCell] at hx
    obtain ⟨rfl, rfl⟩ := hx
    have e1 := Array.size_eq_zero_iff.1 (hf.symm.trans rfl)
    have e2 := Array.size_eq_zero_iff.1 (hc.symm.trans rfl)
    rw [e1, e2]
  | nilFunc => rfl
  | iface t h => simp [AE.plainCell] at hx
  | nilIface => rfl
  | agg hs h => simp [AE.plainCell] at hx
  | unit => rfl
  | tuple hs h => simp [AE.plainCell] at hx
theorem lr_plain {ρ : Ren} : ∀ {xs ys : List Value}, xs.all AE.plainCell = true → LR ρ xs ys → ys = xs
  | [], ys, _, h => h.nil_inv
  | x :: xs, ys, hx, h => by
    simp only [List.all_cons, Bool.and_eq_true] at hx
    obtain ⟨y, ys', rfl, h1, h2⟩ := h.cons_inv
    rw [vr_plain hx.1 h1, lr_plain hx.2 h2]
def KnownOk (e : KE) : Prop := ∀ args s v s', e.run args s = some (v, s') → s.ctr ≤ s'.ctr ∧ ∀ ρ w (args' : Array Value), R ρ s.heap.get w → Fr ρ s → LR ρ args args'.toList →
      Calls Tryz.prog e.f args' w fun x w' => ∃ ρ' v', x = .returned v' ∧ VR ρ' v v' ∧ Step ρ s.heap.get w ρ' s'.heap.get w' (Nw s s')
theorem knows_ok {tab : Known} (h : ∀ e ∈ tab, KnownOk e) : OvOK Tryz.prog (knows tab) := by
  intro f g hfg args s v s' hg
  unfold knows at hfg
  split at hfg
  · cases hfg
    obtain ⟨e, he, hr⟩ := List.exists_of_findSome?_eq_some hg
    cases hq : Nat.beq e.f f with
    | false => rw [hq] at hr; cases hr
    | true =>
      rw [hq] at hr
      have hf : e.f = f := Nat.eq_of_beq_eq_true hq
      have := h e he args s v s' hr
      rw [hf] at this; exact this
  · exact theOv_ok f g hfg args s v s' hg
theorem known_nil : ∀ e ∈ ([] : Known), KnownOk e := fun e he => by cases he
theorem known_cons {a : KE} {l : Known} (h : KnownOk a) (k : ∀ e ∈ l, KnownOk e) : ∀ e ∈ a :: l, KnownOk e := fun e he => by
  rcases List.mem_cons.mp he with q | q
  · rw [q]; exact h
  · exact k e q
theorem knows0_b : OvB (knows []) := ⟨fun k hk => theOv_b.h k hk, rfl, rfl, rfl⟩
theorem below_step {ρ : Ren} {g : Nat → Option Blk} {w w' : World} {N : Nat → Prop} (hR : R ρ g w) (h : Below w.heap.size w w') : Step ρ g w ρ g w' N := by
  have hs := h.size
  have hsame : ∀ B, B < w.heap.size → w'.heap[B]? = w.heap[B]? := fun B hB => h.block B hB
  refine ⟨Ren.le_refl _, ⟨h.os, h.tape, h.output, hs⟩, ⟨fun x y hx => ?_, hR.inj, fun x r hx => Nat.lt_of_lt_of_le (hR.lt x r hx) hs⟩, fun B hB _ => hsame B hB, fun B q => .inl q, fun _ _ => rfl, fun x y hx => .inr ⟨y, hx⟩⟩
  obtain ⟨r, h1, h2⟩ := hR.live x y hx
  exact ⟨r, h1, h2.mono (Ren.le_refl _) (hsame _ (hR.lt x r h1))⟩
theorem known_cr {tab : Known} (h : ∀ e ∈ tab, KnownOk e) {f : FuncId} {args : List Value} {res : Value} (ha : args.all AE.plainCell = true) (hp : plain res = true) (hc : CR Tryz.prog (knows tab) f args ⟨.leaf, 0⟩ fun v _ => v = res) : KnownOk ⟨f, none, args, none, res⟩ := by
  intro args1 s v s' hr
  simp only [KE.run] at hr
  split at hr
  · rename_i hs
    cases hr
    have e1 := same_list hs
    subst e1
    refine ⟨Nat.le_refl _, fun ρ w args' hR hF hA => ?_⟩
    have e2 : args' = args1.toArray := by apply Array.ext'; simpa using lr_plain ha hA
    subst e2
    refine (plain_calls mixed hname (knows_ok h) ha (hc.mono fun v st q => ⟨q, by rw [q]; exact hp⟩) w).mono ?_
    rintro x w' ⟨⟨v, rfl, rfl⟩, hb⟩
    exact ⟨ρ, _, rfl, VR.plain hp, below_step hR hb⟩
  · cases hr
def evalsTo (P : Program) (tab : Known) (n : Nat) (e : KE) : Bool := match evCall P (knows tab) n e.f e.rest ⟨.leaf, 0⟩ with
  | some (v, _) => e.pre.isNone && e.post.isNone && e.rest.all AE.plainCell && plain e.res && sameV v e.res
  | none => false
theorem known_of {tab : Known} (h : ∀ e ∈ tab, KnownOk e) {n : Nat} {e : KE} (he : evalsTo Tryz.prog tab n e = true) : KnownOk e := by
  unfold evalsTo at he
  cases hv : evCall Tryz.prog (knows tab) n e.f e.rest ⟨.leaf, 0⟩ with
  | none => rw [hv] at he; cases he
  | some y =>
    obtain ⟨v, s⟩ := y
    rw [hv] at he
    simp only [Bool.and_eq_true] at he
    obtain ⟨⟨⟨⟨h0, h1⟩, h2⟩, h3⟩, h4⟩ := he
    obtain ⟨f, pre, rest, post, res⟩ := e
    cases pre with
    | some p => cases h0
    | none => cases post with
      | some p => cases h1
      | none => exact known_cr h h2 h3 ⟨n, v, s, hv, same_v h4⟩
theorem br_plain {ρ ρ' : Ren} {w : World} {r : RB} {cs : List Value} {t z : Nat} (h : BR ρ w r ⟨cs, t, z⟩) (hp : cs.all AE.plainCell = true) : BR ρ' w r ⟨cs, t, z⟩ := by
  obtain ⟨h1, c, fz, k1, k2, k3, k4, k5⟩ := h
  refine ⟨h1, c, fz, k1, k2, k3, k4, fun i hi => ?_⟩
  have hx : AE.plainCell (cs.getD i undef) = true := by
    dsimp only at hi
    rw [List.getD_eq_getElem?_getD, List.getElem?_eq_getElem hi]
    exact List.all_eq_true.1 hp _ (List.getElem_mem hi)
  have := k5 i hi
  dsimp only at this ⊢
  rw [vr_plain hx this]
  exact VR.plainCell hx
def evalsH (P : Program) (tab : Known) (n : Nat) (e : KE) : Bool := match e.pre with
  | none => false
  | some (t, cs) => match evCall P (knows tab) n e.f (.slice (some ⟨0, 0, none⟩) cs.length 1 :: e.rest) ⟨(T.leaf : Heap).set 0 ⟨cs, t, 1⟩, 1⟩ with
    | none => false
    | some (v, s) => cs.all AE.plainCell && e.rest.all AE.plainCell && (match s.heap.get 0 with
      | some ⟨cs2, t2, 1⟩ => Nat.beq t2 t && sameCells cs2 cs
      | _ => false) && (match e.post with
      | none => plain e.res && sameV v e.res
      | some (t3, cs3) => cs3.all AE.plainCell && (match v with
        | .slice (some ⟨k, 0, none⟩) n3 1 => Nat.ble 1 k && Nat.beq n3 cs3.length && (match s.heap.get k with
          | some ⟨c4, t4, 1⟩ => Nat.beq t4 t3 && sameCells c4 cs3
          | _ => false)
        | _ => false))
theorem known_h {tab : Known} (h : ∀ e ∈ tab, KnownOk e) {n : Nat} {e : KE} (he : evalsH Tryz.prog tab n e = true) : KnownOk e := by
  obtain ⟨f, pre, rest, post, res⟩ := e
  cases pre with
  | none => cases he
  | some p =>
    obtain ⟨t, cs⟩ := p
    simp only [evalsH] at he
    cases hv : evCall Tryz.prog (knows tab) n f (.slice (some ⟨0, 0, none⟩) cs.length 1 :: rest) ⟨(T.leaf : Heap).set 0 ⟨cs, t, 1⟩, 1⟩ with
    | none => rw [hv] at he; cases he
    | some y =>
      obtain ⟨v0, s0⟩ := y
      rw [hv] at he
      simp only [Bool.and_eq_true] at he
      obtain ⟨⟨⟨h1, h2⟩, h3⟩, h4⟩ := he
      have h30 : s0.heap.get 0 = some ⟨cs, t, 1⟩ := by
        split at h3
        · rename_i cs2 t2 hg
          simp only [Bool.and_eq_true] at h3
          rw [hg, same_list h3.2, Nat.eq_of_beq_eq_true h3.1]
        · cases h3
      intro args s v s' hr
      simp only [KE.run] at hr
      split at hr
      · rename_i b n' r
        split at hr
        · rename_i cs2 t2 hb
          split at hr
          · rename_i hm
            simp only [Bool.and_eq_true] at hm
            obtain ⟨⟨⟨m1, m2⟩, m3⟩, m4⟩ := hm
            have e1 := Nat.eq_of_beq_eq_true m1
            have e2 := same_list m2
            have e3 := Nat.eq_of_beq_eq_true m3
            have e4 := same_list m4
            subst e1 e2 e3 e4
            -- the call at a memory of its own
            have main : ∀ ρ w (args' : Array Value), R ρ s.heap.get w → LR ρ (.slice (some ⟨b, 0, none⟩) cs2.length 1 :: r) args'.toList → ∃ q, ρ b = some q ∧ BR ρ w q ⟨cs2, t2, 1⟩ ∧
                Calls Tryz.prog f args' w fun x w' => ∃ ρ' v', x = .returned v' ∧ VR ρ' v0 v' ∧ Step (fun j => if j = 0 then some q else none) ((T.leaf : Heap).set 0 ⟨cs2, t2, 1⟩).get w ρ' s0.heap.get w' (Nw ⟨(T.leaf : Heap).set 0 ⟨cs2, t2, 1⟩, 1⟩ s0) := by
              intro ρ w args' hR hA
              obtain ⟨q, q1, q2⟩ := hR.live b _ hb
              refine ⟨q, q1, q2, ?_⟩
              obtain ⟨_, _, k⟩ := sound mixed hname (knows tab) (knows_ok h) n f _ _ v0 s0 hv
              refine k (fun j => if j = 0 then some q else none) w args' ⟨fun x y hx => ?_, fun x1 x2 y1 y2 z1 z2 g1 g2 _ _ _ => ?_, fun x z hz => ?_⟩ (fun x hx => by dsimp only at hx ⊢; rw [if_neg (by omega)]) ?_
              · dsimp only at hx; rw [T.get_set] at hx
                by_cases e : x = 0
                · rw [if_pos e] at hx; cases hx; exact ⟨q, if_pos e, br_plain q2 h1⟩
                · rw [if_neg e, leaf_get] at hx; cases hx
              · dsimp only at g1 g2; rw [T.get_set] at g1 g2
                by_cases e : x1 = 0
                · by_cases e2 : x2 = 0
                  · omega
                  · rw [if_neg e2, leaf_get] at g2; cases g2
                · rw [if_neg e, leaf_get] at g1; cases g1
              · by_cases e : x = 0
                · rw [if_pos e] at hz; cases hz; exact hR.lt _ _ q1
                · rw [if_neg e] at hz; cases hz
              · obtain ⟨y, ys, hy, w1, w2⟩ := hA.cons_inv
                rw [hy]
                refine LR.cons ?_ (by rw [lr_plain h2 w2]; exact LR.plain h2)
                cases w1 with
                | slice a1 a2 a3 =>
                  refine .slice a1 a2 (fun hC => ?_)
                  obtain ⟨q', b1, b2, b3, b4⟩ := a3 hC
                  dsimp only at b1 b2 b4
                  rw [q1] at b1; cases b1
                  exact ⟨q, if_pos rfl, b2, rfl, b4⟩
            -- what was there has not turned
            have keep : ∀ {ρ : Ren} {w w' : World} {ρ' : Ren} {q : RB}, R ρ s.heap.get w → ρ b = some q → Step (fun j => if j = 0 then some q else none) ((T.leaf : Heap).set 0 ⟨cs2, t2, 1⟩).get w ρ' s0.heap.get w' (Nw ⟨(T.leaf : Heap).set 0 ⟨cs2, t2, 1⟩, 1⟩ s0) →
                ρ' 0 = some q ∧ (∀ B, B < w.heap.size → B ≠ q.B → w'.heap[B]? = w.heap[B]?) ∧ ∀ x y, s.heap.get x = some y → ∃ z, ρ x = some z ∧ BR ρ w' z y := by
              intro ρ w w' ρ' q hR q1 st
              have r0 : ρ' 0 = some q := st.le 0 q (if_pos rfl)
              have hold : ∀ B, B < w.heap.size → B ≠ q.B → w'.heap[B]? = w.heap[B]? := by
                intro B hB hne
                refine st.old B hB ?_
                rintro ⟨x, y, z, g1, g2, g3⟩
                dsimp only at g2
                by_cases e : x = 0
                · rw [if_pos e] at g2; cases g2; exact hne g3.symm
                · rw [if_neg e] at g2; cases g2
              refine ⟨r0, hold, fun x y hx => ?_⟩
              obtain ⟨z, z1, z2⟩ := hR.live x y hx
              refine ⟨z, z1, ?_⟩
              by_cases e : x = b
              · subst e
                rw [hb] at hx; cases hx
                rw [q1] at z1; cases z1
                obtain ⟨q', p1, p2⟩ := st.rel.live 0 _ h30
                rw [r0] at p1; cases p1
                exact br_plain p2 h1
              · exact z2.mono (Ren.le_refl _) (hold _ (hR.lt _ _ z1) (fun e2 => e (hR.inj _ _ _ _ _ _ hx hb z1 q1 e2)))
            cases post with
            | none =>
              simp only [Bool.and_eq_true] at h4
              cases hr
              have hve := same_v h4.2
              subst hve
              refine ⟨Nat.le_refl _, fun ρ w args' hR hF hA => ?_⟩
              obtain ⟨q, q1, q2, hc⟩ := main ρ w args' hR hA
              refine hc.mono ?_
              rintro x w' ⟨ρ', v', rfl, hvr, st⟩
              obtain ⟨r0, hold, hlive⟩ := keep hR q1 st
              have hv' : VR ρ v0 v' := by
                have hpl := h4.1
                cases v0 with
                | agg c =>
                  cases hvr with
                  | agg hs hh =>
                    have := LR.of_agg hs hh
                    rw [show AE.plain (.agg c) = c.toList.all AE.plainCell from rfl] at hpl
                    have e := lr_plain hpl this
                    rw [Array.ext' e]; exact VR.plain hpl
                | _ => rw [vr_plain (by simpa [AE.plain] using hpl) hvr]; exact VR.plain hpl
              exact ⟨ρ, v', rfl, hv', Ren.le_refl _, st.same, ⟨hlive, hR.inj, fun y z hz => Nat.lt_of_lt_of_le (hR.lt y z hz) st.same.size⟩, fun B hB hf => hold B hB (fun e => hf ⟨b, _, q, hb, q1, e.symm⟩), fun B hf => .inl hf, fun _ _ => rfl, fun y z hz => .inr ⟨z, hz⟩⟩
            | some p3 =>
              obtain ⟨t3, cs3⟩ := p3
              simp only [Bool.and_eq_true] at h4
              obtain ⟨h5, h6⟩ := h4
              split at h6
              · rename_i k n3
                simp only [Bool.and_eq_true] at h6
                obtain ⟨⟨i1, i2⟩, i3⟩ := h6
                have j1 : 1 ≤ k := Nat.le_of_ble_eq_true i1
                have j2 := Nat.eq_of_beq_eq_true i2
                subst j2
                have j3 : s0.heap.get k = some ⟨cs3, t3, 1⟩ := by
                  split at i3
                  · rename_i c4 t4 hg
                    simp only [Bool.and_eq_true] at i3
                    rw [hg, same_list i3.2, Nat.eq_of_beq_eq_true i3.1]
                  · cases i3
                cases hr
                refine ⟨Nat.le_succ _, fun ρ w args' hR hF hA => ?_⟩
                obtain ⟨q, q1, q2, hc⟩ := main ρ w args' hR hA
                refine hc.mono ?_
                rintro x w' ⟨ρ', v', rfl, hvr, st⟩
                obtain ⟨r0, hold, hlive⟩ := keep hR q1 st
                obtain ⟨q3, p1, p2⟩ := st.rel.live k _ j3
                have hnew : w.heap.size ≤ q3.B := by
                  rcases st.foot q3.B ⟨k, _, q3, j3, p1, rfl⟩ with ⟨x, y, z, g1, g2, g3⟩ | q
                  · dsimp only at g2
                    by_cases e : x = 0
                    · rw [if_pos e] at g2; cases g2
                      have := st.rel.inj _ _ _ _ _ _ h30 j3 r0 p1 g3
                      omega
                    · rw [if_neg e] at g2; cases g2
                  · exact q
                have hnone : ρ s.ctr = none := hF s.ctr (Nat.le_refl _)
                have hle := Ren.le_upd (ρ := ρ) q3 hnone
                have hgs : ∀ x, (s.heap.set s.ctr ⟨cs3, t3, 1⟩).get x = if x = s.ctr then some ⟨cs3, t3, 1⟩ else s.heap.get x := fun x => T.get_set _ _ _ _
                refine ⟨ρ.upd s.ctr q3, v', rfl, ?_, hle, st.same, ⟨fun x y hx => ?_, fun x1 x2 y1 y2 z1 z2 g1 g2 u1 u2 eB => ?_, fun x z hz => ?_⟩, fun B hB hf => hold B hB (fun e => hf ⟨b, _, q, hb, q1, e.symm⟩), fun B hf => ?_, fun x hx => Ren.upd_other _ _ (fun e => hx ⟨by omega, by dsimp only; omega⟩), fun x y hx => ?_⟩
                · cases hvr with
                  | slice a1 a2 a3 =>
                    refine .slice a1 a2 (fun hC => ?_)
                    obtain ⟨q', b1, b2, b3, b4⟩ := a3 hC
                    dsimp only at b1 b2 b4
                    rw [p1] at b1; cases b1
                    exact ⟨q3, Ren.upd_same _ _ _, b2, rfl, b4⟩
                · dsimp only at hx; rw [hgs] at hx
                  by_cases e : x = s.ctr
                  · rw [if_pos e] at hx; cases hx
                    exact ⟨q3, by rw [e]; exact Ren.upd_same _ _ _, br_plain p2 h5⟩
                  · rw [if_neg e] at hx
                    obtain ⟨z, z1, z2⟩ := hlive x y hx
                    obtain ⟨d1, d2, d3, d4, d5, d6, d7, d8⟩ := z2
                    exact ⟨z, hle _ _ z1, d1, d2, d3, d4, d5, d6, d7, fun i hi => (d8 i hi).mono hle⟩
                · dsimp only at g1 g2; rw [hgs] at g1 g2
                  by_cases e1 : x1 = s.ctr
                  · by_cases e2 : x2 = s.ctr
                    · rw [e1, e2]
                    · rw [if_neg e2] at g2
                      rw [e1, Ren.upd_same] at u1; cases u1
                      rw [Ren.upd_other _ _ e2] at u2
                      have := hR.lt _ _ u2; omega
                  · rw [if_neg e1] at g1
                    rw [Ren.upd_other _ _ e1] at u1
                    by_cases e2 : x2 = s.ctr
                    · rw [e2, Ren.upd_same] at u2; cases u2
                      have := hR.lt _ _ u1; omega
                    · rw [if_neg e2] at g2
                      rw [Ren.upd_other _ _ e2] at u2
                      exact hR.inj _ _ _ _ _ _ g1 g2 u1 u2 eB
                · by_cases e : x = s.ctr
                  · rw [e, Ren.upd_same] at hz; cases hz; exact st.rel.lt _ _ p1
                  · rw [Ren.upd_other _ _ e] at hz; exact Nat.lt_of_lt_of_le (hR.lt _ _ hz) st.same.size
                · obtain ⟨x, y, z, g1, g2, g3⟩ := hf
                  dsimp only at g1; rw [hgs] at g1
                  by_cases e : x = s.ctr
                  · rw [e, Ren.upd_same] at g2; cases g2; exact .inr (by omega)
                  · rw [if_neg e] at g1; rw [Ren.upd_other _ _ e] at g2; exact .inl ⟨x, y, z, g1, g2, g3⟩
                · dsimp only at hx; rw [hgs] at hx
                  by_cases e : x = s.ctr
                  · exact .inl ⟨by omega, by dsimp only; omega⟩
                  · rw [if_neg e] at hx; exact .inr ⟨y, hx⟩
              · cases h6
          · cases hr
        · cases hr
      · cases hr
end Go.Proofs.YtegjkhgaoabfcaaGreat
