/- Part 11 (a part of the proof of UnstreamSteps; no condition). -/
import Derived.KernelRfl
import Derived.Laws.Externs
import Derived.Laws.IdiomCopy
import Derived.Lib.Builder
import Derived.Lib.Slices
import Derived.Lib.Strings
import Derived.Lib.UnsafeStr
import Derived.Lib.Walk
import Derived.Shelf.RegionOpenPlain
import Derived.Test.YtegjkhgaoabfcaaGreatProg
import Derived.Test.YtegjkhgaoabfcaaGreatWg
import Derived.Test.YtegjkhgaoabfcaaGreatWj
import Derived.WalkKit
set_option linter.unusedSimpArgs false
set_option linter.unusedVariables false
set_option maxRecDepth 10000
namespace Go.Proofs.YtegjkhgaoabfcaaGreat
open Go.AE
section
variable {ov : OvT} (H : OvH ov)
include H
theorem rRow_cr {h : Heap} {c size : Nat} {L : List Bool} (hL : L.length ≤ 1000000) (hz : 3 ≤ size ∧ size ≤ 258) :
    CR Tryz.prog ov 145 [.string (zs L), nv size, nv 2097152] ⟨h, c⟩ (fun v st => ∃ (a : Option Addr) (n cp bits : Nat) (held : Int) (e : Nat), v = .agg #[.slice a n cp, nv bits, iv held, nv e] ∧
      ((e ≠ 0 ∧ Runs coS coF L (Co.new size) 0 (.error e)) ∨ (e = 0 ∧ ∃ c', Runs coS coF L (Co.new size) 0 (.ok (c', bits)) ∧ c'.out.length = n ∧ n ≤ L.length ∧ bits ≤ L.length ∧ SlR 3 1 (c'.out.map nv) a n cp st.heap.get ∧ ∀ z ∈ own a, c ≤ z ∧ z < st.ctr)) ∧ Keep [] h c st) := by
  have hsz : (zs L).size = L.length := by rw [txt_size, zl_len]
  refine e_3 Tryz.func145 rfl (H _ (by decide)) Tryz.ntmps145 (by decide) ?_
  intro env U
  refine sg 1 J (qZ i203 z203 J (nK (sg 4 J (qM U J (qC U J (CR.mono (rPicksE_cr H hL) ?_))))))
  rintro v ⟨hh1, cc1⟩ ⟨a1, n1, cp1, t, b1, to, e1, rfl, hcase, hK1⟩
  have hcc1 := hK1.1
  dsimp only at hcc1 hcase
  refine qZ i238 z238 J (qV U rfl rfl gA p238 rfl rfl (by simp [Value.cells]) ?_)
  refine ro_gen (fun H2 hH2 => ?_)
  have hx2 : ∀ x, x ≠ c + 3 → H2.get x = hh1.get x := fun x hx => by rw [hH2]; simp only [T.get_set]; rw [if_neg (by omega), if_neg (by omega)]
  have hb5 : H2.get (c + 3) = some ⟨[.slice a1 n1 cp1, nv t, nv b1, nv to, nv e1], 238, 0⟩ := by rw [hH2, T.get_set, if_pos (by omega)]; rfl
  have hb4 : H2.get c = some ⟨[nilS, nv 0, nv 0, nv 0], 203, 0⟩ := (hx2 c (by omega)).trans ((hK1.2 c (by omega) (by simp)).trans (by rw [T.get_set, if_pos (by omega)]; rfl))
  have hK2 : Keep [] h c ⟨H2, cc1⟩ := ⟨by dsimp only; omega, fun x hx _ => (hx2 x (by omega)).trans ((hK1.2 x (by omega) (by simp)).trans (by rw [T.get_set, if_neg (by omega)]))⟩
  refine nK (rS (sg 3 J (qF U J fa238_4 (qL U J gA ((p3.1 _ _).trans J) ?_))))
  refine qB U J J J (nK ?_)
  refine rC U rfl (fun herr => ?_) (fun herr => ?_)
  · try simp only [dz, dy] at herr
    refine sg 4 J (qF U J fa238_4 (qL U J gA ((p3.1 _ _).trans J) ?_))
    refine qU U rfl i203 z203 rfl (by simp [Program.built, Instr.fill, Tryz.underlying203, Value.cells]; rfl) ?_
    refine qV U rfl rfl gA p203 rfl rfl (by simp [Value.cells]) ?_
    refine nK (rR (kR (f_c U J (.inl J) J  (T.get_set _ _ _ _ |>.trans (if_pos J)) ((p203.1 _ _).trans J) ?_)))
    have hd : e1 ≠ 0 ∧ Runs Pk.step pkF L Pk.none 0 (.error e1) := by rcases hcase with q | ⟨q, _⟩; exact q; (subst q; simp at herr)
    obtain ⟨p', m', s1, s2⟩ := (co_pk (size := size) hd.2).2 e1 rfl
    exact ⟨none, 0, 0, 0, 0, e1, rfl, .inl ⟨hd.1, Steps.runs s1 (.fail rfl s2)⟩, (hK2.set (.inl (by omega))).up (by omega)⟩
  · try simp only [dz, dy] at herr
    obtain ⟨rfl, p, hRp, hg, hpd, hb1, rfl, rfl, hS1, hO1⟩ : e1 = 0 ∧ ∃ p, Runs Pk.step pkF L Pk.none 0 (.ok (p, b1)) ∧ p.good ∧ p.done = true ∧ b1 ≤ L.length ∧ n1 = p.picks.length ∧ t = p.t ∧ SlR 3 1 (p.picks.map nv) a1 n1 cp1 hh1.get ∧ ∀ z ∈ own a1, c + 5 ≤ z ∧ z < cc1 := by rcases hcase with ⟨q, _⟩ | ⟨q, d, q1, q2, q3, q4, q5, q6, q7, q8⟩; (exfalso; simp at herr; omega); exact ⟨q, d, q1, q2, q3, q4, q5, q6, q7, fun x hx => by have := q8 x hx; omega⟩
    have hst1 := (co_pk (size := size) hRp).1 p b1 rfl
    refine rK (kN (rS (rD [] (by decide +kernel) (by decide +kernel) (n := 10) rfl ?_)))
    refine qM U J (qF U J fa238_2 (qL U J gA ((p3.1 _ _).trans J) ?_))
    refine qT (s := zl L) b1 (zl L).length U rfl Tryz.underlying9 rfl rfl ⟨by rw [zl_len]; omega, Nat.le_refl _⟩ ?_
    rw [zl_rest]
    refine qF U J fa238_1 (qL U J gA ((p3.1 _ _).trans J) ?_)
    refine qM U J (qC U J (CR.mono (rTablesE_cr H (k := b1) (pk := p) hL hb1 hz hpd hg.2.2.1) ?_))
    rintro v ⟨hh3, cc3⟩ ⟨a2, n2, cp2, b2, e2, rfl, hcase2, hK3⟩
    have hcc3 := hK3.1
    dsimp only at hcc3 hcase2
    refine qZ i242 z242 J (qV U rfl rfl gA p242 rfl rfl (by simp [Value.cells]) ?_)
    refine ro_gen (fun H5 hH5 => ?_)
    have hx5 : ∀ x, x ≠ cc1 + 11 → H5.get x = hh3.get x := fun x hx => by rw [hH5]; simp only [T.get_set]; rw [if_neg (by omega), if_neg (by omega)]
    have hb6 : H5.get (cc1 + 11) = some ⟨[.slice a2 n2 cp2, nv b2, nv e2], 242, 0⟩ := by rw [hH5, T.get_set, if_pos (by omega)]; rfl
    have hlow : ∀ x, x < cc1 → H5.get x = H2.get x := fun x hx => (hx5 x (by omega)).trans (hK3.2 x (by omega) (by simp))
    have hb45 := (hlow c (by omega)).trans hb4
    have hb55 := (hlow (c + 3) (by omega)).trans hb5
    have hK5 : Keep [] h c ⟨H5, cc3⟩ := ⟨by dsimp only; omega, fun x hx _ => (hlow x (by omega)).trans (hK2.2 x hx (by simp))⟩
    have hS15 := hS1.move (g' := H5.get) (fun x hx => by have := hO1 x hx; exact (hlow x (by omega)).trans (hx2 x (by omega)))
    refine ro_nild (kN (rS (sg 3 J (qF U J fa242_2 (qL U J gA ((p3.1 _ _).trans J) ?_)))))
    refine qB U J J J (nK ?_)
    refine rC U rfl (fun herr2 => ?_) (fun herr2 => ?_)
    · try simp only [dz, dy] at herr2
      refine sg 4 J (qF U J fa242_2 (qL U J gA ((p3.1 _ _).trans J) ?_))
      refine qU U rfl i203 z203 rfl (by simp [Program.built, Instr.fill, Tryz.underlying203, Value.cells]; rfl) ?_
      refine qV U rfl rfl gA p203 rfl rfl (by simp [Value.cells]) ?_
      refine nK (rR (kR (f_c U J (.inl J) J  (T.get_set _ _ _ _ |>.trans (if_pos J)) ((p203.1 _ _).trans J) ?_)))
      have hd : e2 ≠ 0 ∧ ∃ c' m, Steps coS coF L (coT size p []) b1 c' m ∧ c'.done = false ∧ c'.out = [] ∧ coS c' (L.drop m) = .error e2 := by rcases hcase2 with q | ⟨q, _⟩; exact q; (subst q; simp at herr2)
      obtain ⟨c', m', s1, s2, s3, s4⟩ := hd.2
      exact ⟨none, 0, 0, 0, 0, e2, rfl, .inl ⟨hd.1, Steps.runs (hst1.trans s1) (.fail s2 s4)⟩, (hK5.set (.inl (by omega))).up (by omega)⟩
    · try simp only [dz, dy] at herr2
      obtain ⟨rfl, tabs, bs, rfl, hst2, hb2, htl, hok, hS2, hT, hO2, hOb⟩ : e2 = 0 ∧ ∃ tabs bs, n2 = p.t ∧ Steps coS coF L (coT size p []) b1 (coT size p tabs) (b1 + b2) ∧ b1 + b2 ≤ L.length ∧ tabs.length = p.t ∧ TabsOk size tabs ∧ SlR 244 1 (bs.map (tv size)) a2 n2 cp2 hh3.get ∧ TabR tabs bs hh3.get ∧ (∀ z ∈ own a2, cc1 + 13 ≤ z ∧ z < cc3) ∧ ∀ z ∈ bs, cc1 + 13 ≤ z ∧ z < cc3 := by rcases hcase2 with ⟨q, _⟩ | ⟨q, tabs, bs, q1, q2, q3, q4, q5, q6, q7, q8, q9⟩; (exfalso; simp at herr2; omega); exact ⟨q, tabs, bs, q1, q2, q3, q4, q5, q6, q7, fun x hx => by have := q8 x hx; omega, fun x hx => by have := q9 x hx; omega⟩
      have hS25 := hS2.move (g' := H5.get) (fun x hx => by have := hO2 x hx; exact hx5 x (by omega))
      have hT5 := hT.move (g' := H5.get) (fun x hx => by have := hOb x hx; exact hx5 x (by omega))
      have hst := hst1.trans hst2
      refine rK (kN (sg 6 J (qF U J fa238_2 (qL U J gA ((p3.1 _ _).trans J) ?_))))
      refine qF U J fa242_1 (qL U J gA ((p3.1 _ _).trans J) ?_)
      refine qP U J J wA ?_
      refine qA U J (nK (sg 1 J (qA U J (nK (rB ?_)))))
      refine rL (fun m env' s' => ∃ out at_ a cp, m = L.length - at_ ∧ Hd 98 [(0, .string (zs L)), (1, nv size), (2, nv 2097152), (6, ptr c), (7, ptr (c + 3)), (8, ptr (cc1 + 11)), (9, nv at_), (10, .slice a out.length cp)] env' ∧ Steps coS coF L (Co.new size) 0 (coO size p tabs out false) at_ ∧ out.length ≤ at_ ∧ at_ ≤ L.length ∧ (∀ x ∈ out, x + 1 < size) ∧ SlR 3 1 (out.map nv) a out.length cp s'.heap.get ∧ (∀ z ∈ own a, cc3 ≤ z ∧ z < s'.ctr) ∧ Keep [] H5 cc3 s') (L.length - (b1 + b2)) ?_ ?_
      · exact ⟨[], b1 + b2, none, 0, rfl, Ho U ⟨rfl, rfl, rfl, rfl, rfl, rfl, rfl, rfl, trivial⟩, hst, Nat.zero_le _, hb2, by simp, SlR.nil, by simp [own], Keep.refl (by omega)⟩
      rintro m _ ⟨h6, c6⟩ ⟨out, at_, a, cp, rfl, ⟨env, U, rfl⟩, hSt, hoa, hal, hos, hS, hO, hKL⟩
      dsimp only at hS hO
      have hcL := hKL.1
      dsimp only at hcL
      have hb5L := (hKL.2 (c + 3) (by omega) (by simp)).trans hb55
      have hb4L := (hKL.2 c (by omega) (by simp)).trans hb45
      have hb6L := (hKL.2 (cc1 + 11) (by omega) (by simp)).trans hb6
      have hsym := co_sym (l := L.drop at_) (size := size) (out := out) hpd htl
      have hld : (L.drop at_).length = L.length - at_ := List.length_drop
      refine rB (rS (sg 7 J (qM U J (q_lenL U J Tryz.underlying171 (q_quo U rfl rfl ⟨by omega, by omega⟩ wA ?_)))))
      refine qF U J fa238_0 (qL U J gA ((p171.1 _ _).trans J) ?_)
      refine q_lenL U J Tryz.underlying171 (qB U J J J (nK ?_))
      refine rC U rfl (fun hge => ?_) (fun hge => ?_)
      · try simp only [dz, dy] at hge
        refine sg 2 J (qU U rfl i203 z203 rfl (by simp [Program.built, Instr.fill, Tryz.underlying203, Value.cells]; rfl) ?_)
        refine qV U rfl rfl gA p203 rfl rfl (by simp [Value.cells]) ?_
        refine nK (rR (kR (k_bloR (kR (k_bloR (f_c U J (.inl J) J  (T.get_set _ _ _ _ |>.trans (if_pos J)) ((p203.1 _ _).trans J) ?_))))))
        exact ⟨none, 0, 0, 0, 0, 25, rfl, .inl ⟨by decide, Steps.runs hSt (.fail rfl (hsym.1 (by omega)))⟩, ((hK5.call hKL (by simp)).set (.inl (by omega))).up (by omega)⟩
      · try simp only [dz, dy] at hge
        obtain ⟨pick, hpick⟩ : ∃ pick, p.picks[out.length / 50]? = some pick := ⟨_, List.getElem?_eq_getElem (by omega)⟩
        have hpt := hg.2.2.2.2.2.1 pick (List.mem_of_getElem? hpick)
        obtain ⟨tab, htab⟩ : ∃ tab, tabs[pick]? = some tab := ⟨_, List.getElem?_eq_getElem (by omega)⟩
        obtain ⟨bn, hbn⟩ : ∃ bn, bs[pick]? = some bn := ⟨_, List.getElem?_eq_getElem (by rw [hT.1]; omega)⟩
        have hbk := hT5.2 pick bn tab hbn htab
        have hbl := hOb bn (List.mem_of_getElem? hbn)
        have hbkL := (hKL.2 bn (by omega) (by simp)).trans hbk
        obtain ⟨ol1, ol2, ol3⟩ := hok tab (List.mem_of_getElem? htab)
        have hsy := hsym.2 pick tab hpick htab ol2 ol3
        obtain ⟨mb1, rfl, rfl, hmb1⟩ := hS15.pos (by omega)
        obtain ⟨mb2, rfl, rfl, hmb2⟩ := hS25.pos (by omega)
        have hmb1L := (hKL.2 mb1 (by have := hO1 mb1 (by simp [own]); omega) (by simp)).trans hmb1
        have hmb2L := (hKL.2 mb2 (by have := hO2 mb2 (by simp [own]); omega) (by simp)).trans hmb2
        refine rK (kN (rS (rD [] (by decide +kernel) (by decide +kernel) (n := 12) rfl ?_)))
        refine qF U J fa242_0 (qL U J gA ((p240.1 _ _).trans J) ?_)
        refine qF U J fa238_0 (qL U J gA ((p171.1 _ _).trans J) ?_)
        refine qM U J (q_lenL U J Tryz.underlying171 (q_quo U rfl rfl ⟨by omega, by omega⟩ wA ?_))
        refine qI U rfl rfl e171 ⟨by omega, by omega⟩ ?_
        refine qL U rfl gA ((p3.1 _ _).trans (by rw [show 0 + ((out.length : Int) / 50).toNat * 1 = out.length / 50 by omega, List.getElem?_map, hpick]; rfl)) (v := nv pick) ?_
        refine qI U rfl rfl e240 ⟨by omega, by omega⟩ ?_
        refine qL U rfl gA ((p244.1 _ _).trans (by rw [show 0 + ((pick : Nat) : Int).toNat * 1 = pick by omega, List.getElem?_map, hbn]; rfl)) (v := tv size bn) ?_
        refine qA U J (ro_nild (kN (sg 6 J (qM U J (qM U J (qM U J (qT (s := zl L) at_ (zl L).length U rfl Tryz.underlying9 rfl rfl ⟨by rw [zl_len]; omega, Nat.le_refl _⟩ ?_)))))))
        rw [zl_rest]
        refine qC U J (CR.mono (rGetE_cr H (cs := codesL tab) (.inr ⟨bn, rfl, rfl, hbkL, by simp [codesL, ol1], by omega⟩) oA) ?_)
        rintro v ⟨hh7, cc7⟩ ⟨x, rfl, hx, rfl, hk7⟩
        dsimp only at hk7
        refine qA U J (nK (rS (sg 2 J (qM U J (qB U J J J (nK ?_))))))
        refine rC U rfl (fun hneg => ?_) (fun hneg => ?_)
        · try simp only [dz, dy] at hneg
          refine sg 2 J (qU U rfl i203 z203 rfl (by simp [Program.built, Instr.fill, Tryz.underlying203, Value.cells]; rfl) ?_)
          refine qV U rfl rfl gA p203 rfl rfl (by simp [Value.cells]) ?_
          refine nK (rR (kR (k_bloR (kR (k_bloR (f_c U J (.inl J) J  (T.get_set _ _ _ _ |>.trans (if_pos J)) ((p203.1 _ _).trans J) ?_))))))
          have hxn : x = -1 ∧ (codesL tab).findIdx? (begB (L.drop at_)) = none := by rcases hx with q | ⟨s, q, _⟩; exact q; omega
          exact ⟨none, 0, 0, 0, 0, 3, rfl, .inl ⟨by decide, Steps.runs hSt (.fail rfl (hsy.1 hxn.2))⟩, ((hK5.call hKL (by simp)).set (.inl (by omega))).up (by omega)⟩
        · try simp only [dz, dy] at hneg
          have hpl : p.picks.length < 32768 := by have := hg.2.2.2.2.1; have := hg.2.2.2.1; omega
          have hmul : p.t * size ≤ 6 * 258 := Nat.mul_le_mul hg.2.2.1 hz.2
          obtain ⟨s, rfl, hfs⟩ : ∃ s : Nat, x = s ∧ (codesL tab).findIdx? (begB (L.drop at_)) = some s := by rcases hx with ⟨q, _⟩ | q; omega; exact q
          obtain ⟨hs1, hs2, hs3, hs4⟩ := hsy.2 s hfs
          refine rK (kN (rS (sg 4 J (qM U J (q_lenL U J Tryz.underlying171 (qM U J (qB U J J J (nK (rF U J dA ?_)))))))))
          refine rK (kN (sg 8 J (qM U J (qM U J (qM U J (qI U rfl rfl e244 ⟨by omega, by omega⟩ ?_))))))
          refine qL U rfl gA ((p9.1 _ _).trans (by rw [show 0 + ((s : Nat) : Int).toNat * 1 = s by omega, List.getElem?_map, codesL_get hs1]; rfl)) (v := sv (codeB tab s)) ?_
          refine qK U J Tryz.underlying9 ?_
          rw [txt_size, zl_len]
          refine qP U J J wA ?_
          refine qA U J (nK (sg 5 J (qM U J (qM U J (q1_ U J a171 J (qX U rfl rfl a171 a171 (hS.move (fun z hz => by have := hO z hz; rw [T.get_set, if_neg oA])) ((T.get_set _ _ _ _).trans (if_pos rfl)) rfl oA oA ?_))))))
          intro a8 cp8 h8 hS8 hO8 hF8
          have hKL8 := hKL.app2 hF8 (fun z hz => .inl (hO z hz).1) (by omega) (by omega) (Nat.le_refl _)
          have hst8 := hSt.trans (.more rfl hs4 (.refl _ _))
          have e8 : (out ++ [s]).map nv = out.map nv ++ [nv s] := List.map_append
          refine qA U J (nK (sg 4 J ?_))
          have hb4L := (hF8 c (by omega) (fun m => by have := hO c m; omega)).trans ((T.get_set _ _ _ _).trans ((if_neg (by omega)).trans hb4L))
          have hb5L := (hF8 (c + 3) (by omega) (fun m => by have := hO _ m; omega)).trans ((T.get_set _ _ _ _).trans ((if_neg (by omega)).trans hb5L))
          have hsl : s + 1 ≤ size := by omega
          refine qM U J (qM U J (q_sub U J J wA ?_))
          refine qB U J J J (nK ?_)
          refine rC U rfl (fun hend => ?_) (fun hend => ?_)
          · try simp only [dz, dy] at hend
            refine sg 12 J (qM U J (qM U J (qF U J fa238_0 (qL U J gA ((p171.1 _ _).trans J) ?_))))
            refine q_lenL U J Tryz.underlying171 (qF U J fa238_1 (qL U J gA ((p3.1 _ _).trans J) ?_))
            refine qM U J (q_mul U rfl rfl (m := ((p.t * size : Nat) : Int)) (by rw [← Int.natCast_mul]; exact wrapI oA oA) ?_)
            refine qP U J J wA ?_
            refine qU U rfl i203 z203 rfl (by simp [Program.built, Instr.fill, Tryz.underlying203, Value.cells]; rfl) ?_
            refine qV U rfl rfl gA p203 rfl rfl (by simp [Value.cells]) ?_
            refine nK (rR (k_bloR (kR (k_bloR (f_c U J (.inl J) J  (T.get_set _ _ _ _ |>.trans (if_pos J)) ((p203.1 _ _).trans J) ?_)))))
            have hse : (s + 1 == size) = true := by simp; omega
            have hc8 : cc3 ≤ cc7 := by omega
            exact ⟨a8, out.length + 1, cp8, at_ + (codeB tab s).length, _, 0, rfl, .inr ⟨rfl, _, Steps.runs hst8 (.stop hse), by simp, by omega, by omega, by rw [e8]; exact hS8.move (fun z hz => by have := hO8 z hz; dsimp only; rw [T.get_set, if_neg (by omega)]), fun z hz => by have := hO8 z hz; dsimp only; omega⟩, ((hK5.call hKL8 (by simp)).set (.inl (by omega))).up (by omega)⟩
          · try simp only [dz, dy] at hend
            have hse : (s + 1 == size) = false := by simp; omega
            rw [hse] at hst8
            refine rK (kO (kN ?_))
            exact ⟨_, by omega, out ++ [s], at_ + (codeB tab s).length, a8, cp8, rfl, Ho U ⟨rfl, rfl, rfl, rfl, rfl, rfl, rfl, by rw [List.length_append]; rfl, trivial⟩, hst8, by rw [List.length_append]; simp; omega, by omega, fun x hx => by rcases List.mem_append.mp hx with q | q; (exact hos x q); (simp at q; subst q; simp at hse; omega), by rw [e8, List.length_append]; exact hS8, fun z hz => by have := hO8 z hz; dsimp only; omega, hKL8.up (by omega)⟩
end
def moveR {S : Type} (k : Nat) : Except Nat (S × Nat) → Except Nat (S × Nat)
  | .ok (t, m) => .ok (t, k + m)
  | .error e => .error e
theorem Runs.shift {S : Type} {step : S → List Bool → Except Nat (S × Nat)} {fin : S → List Bool → Bool} {l : List Bool} {k n : Nat} {s : S} {r : Except Nat (S × Nat)} (h : Runs step fin (l.drop k) s n r) : Runs step fin l s (k + n) (moveR k r) := by
  have hdd : ∀ m, (l.drop k).drop m = l.drop (k + m) := fun m => List.drop_drop ..
  induction h with
  | stop h => exact .stop (by rw [← hdd]; exact h)
  | fail h q => exact .fail (by rw [← hdd]; exact h) (by rw [← hdd]; exact q)
  | more h q m ih => exact .more (by rw [← hdd]; exact h) (by rw [← hdd]; exact q) (by rw [Nat.add_assoc]; exact ih)
theorem put_lt {z z' : Ze} {s d p : Nat} (h1 : 1 ≤ z.n) (hs : s ≤ z.n + 1) (h : z.put s = .ok (z', d, p)) : p < z.n ∧ z'.n = z.n ∧ z.told + d + (if 0 < p then 1 else 0) = z'.told ∧ (s = z.n + 1 → z'.done = true) := by
  simp only [Ze.put] at h
  split at h
  · split at h
    · cases h
    · cases h; exact ⟨by omega, rfl, by simp, fun q => by omega⟩
  · split at h
    · cases h; exact ⟨by omega, rfl, by simp, fun _ => rfl⟩
    · split at h
      · cases h
      · cases h; exact ⟨by omega, rfl, by dsimp only; rw [if_pos (by omega)], fun q => by omega⟩
theorem putsL_facts : ∀ {l : List Nat} {z z' : Ze} {ps : List Nat}, putsL z l = some (z', ps) → z.good → (∀ x ∈ l, x ≤ z.n + 1) → (∀ x ∈ ps, x < z.n) ∧ z'.n = z.n ∧ z'.most = z.most ∧ z.told + ps.length = z'.told ∧ z'.good
  | [], z, z', ps, h, hg, _ => by simp only [putsL, Option.some.injEq, Prod.mk.injEq] at h; obtain ⟨rfl, rfl⟩ := h; exact ⟨by simp, rfl, rfl, rfl, hg⟩
  | s :: l, z, z', ps, h, hg, hx => by
    simp only [putsL] at h
    cases hp : z.put s with
    | error e => rw [hp] at h; cases h
    | ok y =>
      obtain ⟨z1, d, p⟩ := y
      rw [hp] at h
      simp only at h
      have U := put_lt hg.1 (hx s (by simp)) hp
      have hg1 := Ze.put_good hg hp
      cases hq : putsL z1 l with
      | none => rw [hq] at h; cases h
      | some w =>
        obtain ⟨z2, ps2⟩ := w
        rw [hq] at h
        simp only [Option.map_some, Option.some.injEq, Prod.mk.injEq] at h
        obtain ⟨rfl, rfl⟩ := h
        obtain ⟨i1, i2, i3, i4, i5⟩ := putsL_facts hq hg1.1 (fun x q => by rw [U.2.1]; exact hx x (by simp [q]))
        refine ⟨fun x hx => ?_, by rw [i2, U.2.1], by rw [i3, hg1.2.2], ?_, i5⟩
        · rcases List.mem_append.mp hx with q | q
          · simp only [places, List.mem_append, List.mem_replicate] at q
            rcases q with q | q
            · have := hg.1; omega
            · split at q
              · simp only [List.mem_singleton] at q; omega
              · simp at q
          · have := i1 x q; omega
        · rw [← i4, ← U.2.2.1, List.length_append]; simp only [places, List.length_append, List.length_replicate]; split <;> simp <;> omega
theorem putsL_last {a : List Nat} {x : Nat} {z z' : Ze} {ps : List Nat} (h : putsL z (a ++ [x]) = some (z', ps)) (hg : z.good) (hx : ∀ y ∈ a ++ [x], y ≤ z.n + 1) (he : x = z.n + 1) : z'.done = true := by
  rw [putsL_snoc] at h
  cases hq : putsL z a with
  | none => rw [hq] at h; cases h
  | some w =>
    obtain ⟨z1, p1⟩ := w
    rw [hq] at h
    simp only [Option.bind_some] at h
    have hf := putsL_facts hq hg (fun y q => hx y (by simp [q]))
    cases hp : z1.put x with
    | error e => rw [hp] at h; cases h
    | ok y =>
      obtain ⟨z2, d, p⟩ := y
      rw [hp] at h; cases h
      exact (put_lt hf.2.2.2.2.1 (by rw [hf.2.1]; omega) hp).2.2.2 (by rw [hf.2.1]; exact he)
theorem dec6_mem : ∀ {l o : List Nat}, (∀ x ∈ l, x < o.length) → ∀ x ∈ (dec6 l o).1, x ∈ o
  | [], o, _ => by simp [dec6]
  | p :: l, o, h => by
    have hp := h p (by simp)
    have hm : (moved o p).length = o.length := moved_len hp
    intro x hx
    simp only [dec6, List.mem_cons] at hx
    rcases hx with q | q
    · rw [q, List.getD_eq_getElem?_getD, List.getElem?_eq_getElem hp]; exact List.getElem_mem hp
    · exact moved_mem hp (dec6_mem (fun x q => by rw [hm]; exact h x (by simp [q])) x q)
theorem co_done {L : List Bool} {c t : Co} {n m : Nat} (h : Steps coS coF L c n t m) : t.size = c.size ∧ ((c.done = true → ∃ a x, c.out = a ++ [x] ∧ x + 1 = c.size) → t.done = true → ∃ a x, t.out = a ++ [x] ∧ x + 1 = t.size) := by
  induction h with
  | refl => exact ⟨rfl, fun q => q⟩
  | @more c c' t n k m h q r ih =>
    simp only [coF] at h
    simp only [coS] at q
    split at q
    · cases q
    · rename_i c1 o k1 hs
      cases q
      have hok := Co.step_ok hs
      refine ⟨by rw [ih.1, hok.1], fun _ => ih.2 (fun hd => ?_)⟩
      cases o with
      | none => rw [hok.2.1, h] at hd; cases hd
      | some s => rw [hok.2.1] at hd; exact ⟨c.out, s, hok.2.2, by rw [hok.1]; simpa using hd⟩
theorem of_short {L : List Bool} {room : Nat} (h : L.length < 57) : Runs Bl.step blF L (Bl.new room) 0 (.error 3) := by
  refine .fail J ?_
  simp only [Bl.step, Bl.go, Bl.new, List.drop_zero, Bool.not_false, if_true]; rw [if_pos h]
theorem of_rand {L : List Bool} {room : Nat} (h : ¬ L.length < 57) (h2 : L[32]? = some true) : Runs Bl.step blF L (Bl.new room) 0 (.error 25) := by
  have e : (L.drop 32).take 1 = [true] := by rw [drop_cons h2]; rfl
  refine .fail J ?_
  simp only [Bl.step, Bl.go, Bl.new, List.drop_zero, Bool.not_false, if_true]; rw [if_neg h, if_pos e]
section
variable {L : List Bool} {room : Nat} (h : ¬ L.length < 57) (h2 : L[32]? = some false)
include h h2
theorem of_head {r : Except Nat (Bl × Nat)} (k : Runs Bl.step blF L ⟨room, true, num (L.take 32), num ((L.drop 33).take 24), [], none, false⟩ 57 r) : Runs Bl.step blF L (Bl.new room) 0 r := by
  have e : (L.drop 32).take 1 ≠ [true] := by rw [drop_cons h2]; simp
  refine .more rfl (k := 57) (s' := ⟨room, true, num (L.take 32), num ((L.drop 33).take 24), [], none, false⟩) ?_ k
  simp only [Bl.step, Bl.go, Bl.new, List.drop_zero, Bool.not_false, if_true]; rw [if_neg h, if_neg e]; rfl
theorem of_used {e : Nat} (hu : usedR (L.drop 57) = .error e) : Runs Bl.step blF L (Bl.new room) 0 (.error e) := by
  refine of_head h h2 (.fail rfl ?_)
  simp only [Bl.step, Bl.go, Bool.not_true, Bool.false_eq_true, if_false, hu]; rfl
theorem of_law {s : List Nat} {n m : Nat} {rc : Except Nat (Co × Nat)} {c' : Co} (hu : usedR (L.drop 57) = .ok (s, n)) (hrc : Runs coS coF (L.drop (57 + n)) (Co.new (s.length + 2)) 0 rc) (U : Last coS coF (L.drop (57 + n)) (Co.new (s.length + 2)) 0 c' m) :
    (putsL (Ze.new s.length room) c'.out = none → Runs Bl.step blF L (Bl.new room) 0 (.error 25)) ∧
    (putsL (Ze.new s.length room) c'.out ≠ none → (∀ e, rc = .error e → Runs Bl.step blF L (Bl.new room) 0 (.error e)) ∧
      ∀ c2 m2, rc = .ok (c2, m2) → c2 = c' ∧ c'.done = true ∧ ∀ z ps, putsL (Ze.new s.length room) c'.out = some (z, ps) →
        ((dec6 ps s).1.length ≤ num ((L.drop 33).take 24) → Runs Bl.step blF L (Bl.new room) 0 (.error 23)) ∧
        (num ((L.drop 33).take 24) < (dec6 ps s).1.length → ∃ b, Runs Bl.step blF L (Bl.new room) 0 (.ok (b, 57 + n + m2)) ∧ b.last = (dec6 ps s).1 ∧ b.from_ = num ((L.drop 33).take 24) ∧ b.sum = num (L.take 32))) := by
  obtain ⟨r, hR, c3, m3, hl3, hcase⟩ := row_law (room := room) (sum := num (L.take 32)) (from_ := num ((L.drop 33).take 24)) (z0 := Ze.new s.length room) (s0 := s) hrc (Ze.new s.length room) [] rfl
  obtain ⟨rfl, rfl⟩ := hl3.det U
  have hf : (blAt room (num (L.take 32)) (num ((L.drop 33).take 24)) (Co.new (s.length + 2)) (Ze.new s.length room) (dec6 [] s).2 (dec6 [] s).1).fin = .ok (blAt room (num (L.take 32)) (num ((L.drop 33).take 24)) (Co.new (s.length + 2)) (Ze.new s.length room) (dec6 [] s).2 (dec6 [] s).1) := rfl
  simp only [RunB, hf] at hR
  have hS := hR.shift
  have hall : Runs Bl.step blF L (Bl.new room) 0 (moveR (57 + n) r) := by
    refine of_head h h2 (.more rfl (k := n) (s' := blAt room (num (L.take 32)) (num ((L.drop 33).take 24)) (Co.new (s.length + 2)) (Ze.new s.length room) (dec6 [] s).2 (dec6 [] s).1) ?_ hS)
    simp only [Bl.step, Bl.go, Bool.not_true, Bool.false_eq_true, if_false, hu]; rfl
  rcases hcase with ⟨q1, q2⟩ | ⟨q1, e, q2, q3⟩ | ⟨z', ps', q1, q2, q3⟩
  · subst q2; exact ⟨fun _ => hall, fun q => absurd q1 q⟩
  · subst q3
    refine ⟨fun q => absurd q q1, fun _ => ⟨fun e' w => ?_, fun c2 m2 w => ?_⟩⟩
    · rw [q2] at w; cases w; exact hall
    · rw [q2] at w; cases w
  · refine ⟨fun q => (by rw [q2] at q; cases q), fun _ => ⟨fun e' w => (by rw [q1] at w; cases w), fun c2 m2 w => ?_⟩⟩
    rw [q1] at w; cases w
    have hdn : c3.done = true := by
      obtain ⟨t, u, w1, w2⟩ := hrc.last
      rcases w2 with ⟨w2, w3⟩ | ⟨e, w2, _⟩
      · rw [q1] at w2; cases w2; exact w3
      · rw [q1] at w2; cases w2
    refine ⟨rfl, hdn, fun z ps hz => ?_⟩
    rw [q2] at hz; cases hz
    refine ⟨fun hle => ?_, fun hlt => ?_⟩
    · rw [if_pos hle] at q3; subst q3; exact hall
    · rw [if_neg (by omega)] at q3; subst q3; exact ⟨_, hall, rfl, rfl, rfl⟩
end
theorem all2 {p q : Nat × Nat} {F : Nat × Nat → Prop} (h1 : F p) (h2 : F q) : ∀ x ∈ [p, q], F x := by
  intro x hx; simp only [List.mem_cons, List.not_mem_nil, or_false] at hx; rcases hx with rfl | rfl; exact h1; exact h2
section
variable {ov : OvT} (H : OvH ov)
include H
theorem rUsedE_cr {h : Heap} {c : Nat} {L : List Bool} (hL : L.length ≤ 1000000) :
    CR Tryz.prog ov 144 [.string (zs L)] ⟨h, c⟩ (fun v st => ∃ (s : List Nat) (n e : Nat), v = .agg #[.string (txt s), nv n, nv e] ∧ ((e ≠ 0 ∧ usedR L = .error e) ∨ (e = 0 ∧ usedR L = .ok (s, n))) ∧ Keep [] h c st) := by
  refine (rUsed_cr H hL).mono ?_
  rintro v st ⟨q, k⟩
  cases hu : usedR L with
  | error e =>
    rw [hu] at q
    refine ⟨[], 0, e, q, .inl ⟨?_, rfl⟩, k⟩
    simp only [usedR] at hu
    repeat' split at hu
    all_goals first | (cases hu; decide) | (cases hu; done)
  | ok y => obtain ⟨s, n⟩ := y; rw [hu] at q; exact ⟨s, n, 0, q, .inr ⟨rfl, rfl⟩, k⟩
theorem rBlk_cr {h : Heap} {c room : Nat} {L : List Bool} (hL : L.length ≤ 1000000) (hr : 5 ≤ room ∧ room ≤ 900000) :
    CR Tryz.prog ov 111 [.string (zs L), nv room] ⟨h, c⟩ (fun v st => ∃ (last : List Nat) (o sum bits : Nat) (held : Int) (e : Nat), v = .agg #[.string (txt last), nv o, uv sum, nv bits, iv held, nv e] ∧
      ((e ≠ 0 ∧ Runs Bl.step blF L (Bl.new room) 0 (.error e)) ∨ (e = 0 ∧ ∃ b, Runs Bl.step blF L (Bl.new room) 0 (.ok (b, bits)) ∧ b.last = last ∧ b.from_ = o ∧ b.sum = sum ∧ o < last.length ∧ (∀ x ∈ last, x < 256) ∧ last.length ≤ room ∧ sum < 4294967296 ∧ bits ≤ L.length)) ∧ Keep [] h c st) := by
  have hsz : (zs L).size = L.length := by rw [txt_size, zl_len]
  have hK0 : Keep [] h c ⟨h.set c ⟨[nostr, nv 0, uv 0, nv 0, nv 0, nv 0], 160, 0⟩, c⟩ := (Keep.refl (Nat.le_refl c)).set (.inl (by omega))
  have e32 := num_lt (L.take 32)
  have e24 := num_lt ((L.drop 33).take 24)
  refine e_2 Tryz.func111 rfl (H _ (by decide)) Tryz.ntmps111 (by decide) ?_
  intro env U
  refine sg 1 J (qZ i160 z160 J (nK (rS (sg 3 J (qM U J (qK U J Tryz.underlying9 ?_))))))
  rw [hsz]
  refine qB U J J J (nK ?_)
  refine rC U rfl (fun h57 => ?_) (fun h57 => ?_)
  · try simp only [dz, dy] at h57
    refine sg 2 J (qU U rfl i160 z160 rfl (by simp [Program.built, Instr.fill, Tryz.underlying160, Value.cells]; rfl) ?_)
    refine qV U rfl rfl gA p160 rfl rfl (by simp [Value.cells]) ?_
    refine nK (rR (kR (f_c U J (.inl J) J  (T.get_set _ _ _ _ |>.trans (if_pos J)) ((p160.1 _ _).trans J) ?_)))
    exact ⟨[], 0, 0, 0, 0, 3, rfl, .inl ⟨by decide, of_short (by omega)⟩, (hK0.set (.inl (by omega))).up (by omega)⟩
  · try simp only [dz, dy] at h57
    rw [List.length_take, Nat.min_eq_left (by omega)] at e32
    rw [List.length_take, List.length_drop, Nat.min_eq_left (by omega)] at e24
    obtain ⟨t32, ht32⟩ : ∃ t, L[32]? = some t := ⟨_, List.getElem?_eq_getElem (by omega)⟩
    refine rK (kN (rS (sg 3 J (qM U J (qJ U J J Tryz.underlying9 oA (txt_get (zl_get ht32)) ?_)))))
    simp only [zb_nat]
    refine qB U J J J (nK ?_)
    refine rC U rfl (fun h49 => ?_) (fun h49 => ?_)
    · try simp only [dz, dy] at h49
      have htt : t32 = true := by cases t32 with | true => rfl | false => (simp at h49)
      subst htt
      refine sg 2 J (qU U rfl i160 z160 rfl (by simp [Program.built, Instr.fill, Tryz.underlying160, Value.cells]; rfl) ?_)
      refine qV U rfl rfl gA p160 rfl rfl (by simp [Value.cells]) ?_
      refine nK (rR (kR (f_c U J (.inl J) J  (T.get_set _ _ _ _ |>.trans (if_pos J)) ((p160.1 _ _).trans J) ?_)))
      exact ⟨[], 0, 0, 0, 0, 25, rfl, .inl ⟨by decide, of_rand (by omega) ht32⟩, (hK0.set (.inl (by omega))).up (by omega)⟩
    · try simp only [dz, dy] at h49
      have htt : t32 = false := by cases t32 with | false => rfl | true => (simp at h49)
      subst htt
      have h57' : ¬ L.length < 57 := by omega
      refine rK (kN (sg 5 J (qM U J (qT (s := zl L) 57 (zl L).length U rfl Tryz.underlying9 rfl rfl ⟨by rw [zl_len]; omega, Nat.le_refl _⟩ ?_))))
      rw [zl_rest]
      refine qC U J (CR.mono (rUsedE_cr H (L := L.drop 57) (by rw [List.length_drop]; omega)) ?_)
      rintro v ⟨hh1, cc1⟩ ⟨s, n, e1, rfl, hcase, hK1⟩
      have hcc1 := hK1.1
      dsimp only at hcc1 hcase
      refine qZ i200 z200 J (qV U rfl rfl gA p200 rfl rfl (by simp [Value.cells]) ?_)
      refine ro_gen (fun H2 hH2 => ?_)
      have hx2 : ∀ x, x ≠ c + 10 → H2.get x = hh1.get x := fun x hx => by rw [hH2]; simp only [T.get_set]; rw [if_neg (by omega), if_neg (by omega)]
      have hb5 : H2.get (c + 10) = some ⟨[.string (txt s), nv n, nv e1], 200, 0⟩ := by rw [hH2, T.get_set, if_pos (by omega)]; rfl
      have hb4 : H2.get c = some ⟨[nostr, nv 0, uv 0, nv 0, nv 0, nv 0], 160, 0⟩ := (hx2 c (by omega)).trans ((hK1.2 c (by omega) (by simp)).trans (by rw [T.get_set, if_pos (by omega)]; rfl))
      have hK2 : Keep [] h c ⟨H2, cc1⟩ := ⟨by dsimp only; omega, fun x hx _ => (hx2 x (by omega)).trans ((hK1.2 x (by omega) (by simp)).trans (by rw [T.get_set, if_neg (by omega)]))⟩
      refine nK (rS (sg 3 J (qF U J fa200_2 (qL U J gA ((p3.1 _ _).trans J) ?_))))
      refine qB U J J J (nK ?_)
      refine rC U rfl (fun herr => ?_) (fun herr => ?_)
      · try simp only [dz, dy] at herr
        refine sg 4 J (qF U J fa200_2 (qL U J gA ((p3.1 _ _).trans J) ?_))
        refine qU U rfl i160 z160 rfl (by simp [Program.built, Instr.fill, Tryz.underlying160, Value.cells]; rfl) ?_
        refine qV U rfl rfl gA p160 rfl rfl (by simp [Value.cells]) ?_
        refine nK (rR (kR (f_c U J (.inl J) J  (T.get_set _ _ _ _ |>.trans (if_pos J)) ((p160.1 _ _).trans J) ?_)))
        have hd : e1 ≠ 0 ∧ usedR (L.drop 57) = .error e1 := by rcases hcase with q | ⟨q, _⟩; exact q; (subst q; simp at herr)
        exact ⟨[], 0, 0, 0, 0, e1, rfl, .inl ⟨hd.1, of_used h57' ht32 hd.2⟩, (hK2.set (.inl (by omega))).up (by omega)⟩
      · try simp only [dz, dy] at herr
        obtain ⟨rfl, hu⟩ : e1 = 0 ∧ usedR (L.drop 57) = .ok (s, n) := by rcases hcase with ⟨q, _⟩ | q; (exfalso; simp at herr; omega); exact q
        obtain ⟨hsA, hs256, hsne, hsl, hn0, hnl⟩ := usedR_ok hu
        rw [List.length_drop] at hnl
        have hspos : 0 < s.length := by cases s with | nil => exact absurd rfl hsne | cons a s => simp
        refine rK (kN (sg 4 J (qF U J fa200_0 (qL U J gA ((p9.1 _ _).trans J) ?_))))
        refine qK U J Tryz.underlying9 ?_
        rw [txt_size]
        refine qA U J (nK (sg 4 J (qF U J fa200_1 (qL U J gA ((p3.1 _ _).trans J) ?_))))
        refine qP U J J wA ?_
        refine qA U J (nK (sg 8 J (qM U J (qM U J (qT (s := zl L) (57 + n) (zl L).length U rfl Tryz.underlying9 rfl rfl ⟨by rw [zl_len]; omega, Nat.le_refl _⟩ ?_)))))
        rw [zl_rest]
        refine qM U J (qP U J J wA ?_)
        refine qC U J (CR.mono (rRow_cr H (L := L.drop (57 + n)) (size := s.length + 2) (by rw [List.length_drop]; omega) oA) ?_)
        rintro v ⟨hh3, cc3⟩ ⟨a2, n2, cp2, b2, held, e2, rfl, hcase2, hK3⟩
        have hcc3 := hK3.1
        dsimp only at hcc3 hcase2
        refine qZ i203 z203 J (qV U rfl rfl gA p203 rfl rfl (by simp [Value.cells]) ?_)
        refine ro_gen (fun H5 hH5 => ?_)
        have hx5 : ∀ x, x ≠ cc1 + 17 → H5.get x = hh3.get x := fun x hx => by rw [hH5]; simp only [T.get_set]; rw [if_neg (by omega), if_neg (by omega)]
        have hb8 : H5.get (cc1 + 17) = some ⟨[.slice a2 n2 cp2, nv b2, iv held, nv e2], 203, 0⟩ := by rw [hH5, T.get_set, if_pos (by omega)]; rfl
        have hlow : ∀ x, x < cc1 → H5.get x = H2.get x := fun x hx => (hx5 x (by omega)).trans (hK3.2 x (by omega) (by simp))
        have hb55 := (hlow (c + 10) (by omega)).trans hb5
        have hb45 := (hlow c (by omega)).trans hb4
        have hK5 : Keep [] h c ⟨H5, cc3⟩ := ⟨by dsimp only; omega, fun x hx _ => (hlow x (by omega)).trans (hK2.2 x hx (by simp))⟩
        refine nK (rS (sg 10 J (qM U J (qM U J (qT (s := zl L) (57 + n) (zl L).length U rfl Tryz.underlying9 rfl rfl ⟨by rw [zl_len]; omega, Nat.le_refl _⟩ ?_)))))
        rw [zl_rest]
        refine qM U J (qP U J J wA ?_)
        refine qC U J (CR.mono (rSome_cr H (L := L.drop (57 + n)) (size := s.length + 2) (by rw [List.length_drop]; omega) oA) ?_)
        rintro v ⟨hh6, cc6⟩ ⟨a3, n3, cp3, rfl, ⟨c', m', hLast, hS3, hn3, hlt3, hend3⟩, hO3, hK6⟩
        have hcc6 := hK6.1
        dsimp only at hcc6 hS3 hO3
        rw [List.length_drop] at hn3
        refine qM U J (qM U J (qC U J (CR.mono (rCodes_cr H (N := s.length) (room := room) hS3 (fun z hz => (hO3 z hz).2) oA oA oA (fun x hx => by have := hlt3 x hx; omega) hend3) ?_)))
        rintro v ⟨hh7, cc7⟩ ⟨⟨e7, rfl, he7⟩, hK7⟩
        have hcc7 := hK7.1
        dsimp only at hcc7
        have hlow7 : ∀ x, x < cc3 → hh7.get x = H5.get x := fun x hx => (hK7.2 x (by omega) (by simp)).trans (hK6.2 x (by omega) (by simp))
        have hb87 := (hlow7 (cc1 + 17) (by omega)).trans hb8
        have hb57 := (hlow7 (c + 10) (by omega)).trans hb55
        have hb47 := (hlow7 c (by omega)).trans hb45
        have hK77 : Keep [] h c ⟨hh7, cc7⟩ := ⟨by dsimp only; omega, fun x hx _ => (hlow7 x (by omega)).trans (hK5.2 x hx (by simp))⟩
        refine qB U J J J (nK ?_)
        refine rC U rfl (fun hcod => ?_) (fun hcod => ?_)
        · try simp only [dz, dy] at hcod
          refine sg 2 J (qU U rfl i160 z160 rfl (by simp [Program.built, Instr.fill, Tryz.underlying160, Value.cells]; rfl) ?_)
          refine qV U rfl rfl gA p160 rfl rfl (by simp [Value.cells]) ?_
          refine nK (rR (kR (f_c U J (.inl J) J  (T.get_set _ _ _ _ |>.trans (if_pos J)) ((p160.1 _ _).trans J) ?_)))
          have hno : putsL (Ze.new s.length room) c'.out = none := by by_cases q : putsL (Ze.new s.length room) c'.out = none; exact q; (have := he7.mpr q; subst this; simp at hcod)
          have hlaw : Runs Bl.step blF L (Bl.new room) 0 (.error 25) := by rcases hcase2 with ⟨_, q⟩ | ⟨_, c2, q, _⟩; exact (of_law h57' ht32 hu q hLast).1 hno; exact (of_law h57' ht32 hu q hLast).1 hno
          exact ⟨[], 0, 0, 0, 0, 25, rfl, .inl ⟨by decide, hlaw⟩, (hK77.set (.inl (by omega))).up (by omega)⟩
        · try simp only [dz, dy] at hcod
          have hok7 : putsL (Ze.new s.length room) c'.out ≠ none := he7.mp (by simp at hcod; omega)
          refine rK (kN (rS (sg 3 J (qF U J fa203_3 (qL U J gA ((p3.1 _ _).trans J) ?_)))))
          refine qB U J J J (nK ?_)
          refine rC U rfl (fun herr2 => ?_) (fun herr2 => ?_)
          · try simp only [dz, dy] at herr2
            refine sg 4 J (qF U J fa203_3 (qL U J gA ((p3.1 _ _).trans J) ?_))
            refine qU U rfl i160 z160 rfl (by simp [Program.built, Instr.fill, Tryz.underlying160, Value.cells]; rfl) ?_
            refine qV U rfl rfl gA p160 rfl rfl (by simp [Value.cells]) ?_
            refine nK (rR (kR (f_c U J (.inl J) J  (T.get_set _ _ _ _ |>.trans (if_pos J)) ((p160.1 _ _).trans J) ?_)))
            have hd : e2 ≠ 0 ∧ Runs coS coF (L.drop (57 + n)) (Co.new (s.length + 2)) 0 (.error e2) := by rcases hcase2 with q | ⟨q, _⟩; exact q; (subst q; simp at herr2)
            exact ⟨[], 0, 0, 0, 0, e2, rfl, .inl ⟨hd.1, ((of_law h57' ht32 hu hd.2 hLast).2 hok7).1 e2 rfl⟩, (hK77.set (.inl (by omega))).up (by omega)⟩
          · try simp only [dz, dy] at herr2
            obtain ⟨rfl, c2, hRc, hcl, hn2, hb2, hS2, hO2⟩ : e2 = 0 ∧ ∃ c2, Runs coS coF (L.drop (57 + n)) (Co.new (s.length + 2)) 0 (.ok (c2, b2)) ∧ c2.out.length = n2 ∧ n2 ≤ (L.drop (57 + n)).length ∧ b2 ≤ (L.drop (57 + n)).length ∧ SlR 3 1 (c2.out.map nv) a2 n2 cp2 hh3.get ∧ ∀ z ∈ own a2, cc1 + 19 ≤ z ∧ z < cc3 := by rcases hcase2 with ⟨q, _⟩ | ⟨q, c2, q1, q2, q3, q4, q5, q6⟩; (exfalso; simp at herr2; omega); exact ⟨q, c2, q1, q2, q3, q4, q5, fun x hx => by have := q6 x hx; omega⟩
            clear hcase2
            rw [List.length_drop] at hn2 hb2
            have hn32 : c'.out.length = n3 := by have := hS3.len; simpa using this
            obtain ⟨rfl, hcd, hlw⟩ := ((of_law h57' ht32 hu hRc hLast).2 hok7).2 c2 b2 rfl
            obtain ⟨⟨z, ps⟩, hzp⟩ := Option.ne_none_iff_exists'.mp hok7
            have hgz : (Ze.new s.length room).good := ⟨by dsimp only [Ze.new]; omega, hsl, by dsimp only [Ze.new]; omega, by dsimp only [Ze.new]; omega, by dsimp only [Ze.new]; omega⟩
            obtain ⟨f1, f2, f3, f4, f5⟩ := putsL_facts hzp hgz (fun x hx => by have := hlt3 x hx; dsimp only [Ze.new]; omega)
            obtain ⟨al, xl, hal, hxl⟩ := (co_done hLast.1).2 (fun q => absurd q (by simp [Co.new])) hcd
            rw [(co_done hLast.1).1] at hxl
            have hzd : z.done = true := by rw [hal] at hzp; exact putsL_last hzp hgz (fun y q => by have := hlt3 y (by rw [hal]; exact q); dsimp only [Ze.new]; omega) (by dsimp only [Ze.new, Co.new] at *; omega)
            have hS27 := hS2.move (g' := hh7.get) (fun x hx => by have := hO2 x hx; exact (hlow7 x (by omega)).trans (hx5 x (by omega)))
            refine rK (kN (sg 10 J (qF U J fa203_0 (qL U J gA ((p171.1 _ _).trans J) ?_))))
            refine qM U J (qM U J (qC U J (CR.mono (rDecode7_cr H (N := s.length) (room := room) hS27 (fun z hz => by have := hO2 z hz; omega) oA oA oA (fun x hx => by have := hlt3 x hx; omega) (fun i hi => by have := hend3 i hi; omega) hzp hzd) ?_)))
            rintro v ⟨hh8, cc8⟩ ⟨⟨a8, cp8, rfl, hS8, hO8⟩, hK8⟩
            have hcc8 := hK8.1
            dsimp only at hcc8 hS8 hO8
            refine qM U J (qE U J J (qE U J J (qA U J (qA U J (nK (sg 9 J (qM U J (qF U J fa200_0 ?_))))))))
            have hlow8 : ∀ x, x < cc7 → hh8.get x = hh7.get x := fun x hx => hK8.2 x (by omega) (by simp)
            have hb88 := (hlow8 (cc1 + 17) (by omega)).trans hb87
            have hb58 := (hlow8 (c + 10) (by omega)).trans hb57
            have hb48 := (hlow8 c (by omega)).trans hb47
            have hps : ps.length ≤ room := by have := f5.2.2.2.1; have e0 : (Ze.new s.length room).told = 0 := rfl; have e1 : (Ze.new s.length room).most = room := rfl; omega
            refine qL U J gA ((p9.1 _ _).trans J) ?_
            refine qC U J (CR.mono (rDec6_cr H hS8 (fun z hz => by have := hO8 z hz; omega) hsA hs256 hsne hsl oA f1) ?_)
            rintro v ⟨hh9, cc9⟩ ⟨rfl, hK9⟩
            refine qM U J ?_
            have hcc9 := hK9.1
            dsimp only at hcc9
            have hlow9 : ∀ x, x < cc7 → hh9.get x = hh8.get x := fun x hx => hK9.2 x (by omega) (by simp)
            have hb89 := (hlow9 (cc1 + 17) (by omega)).trans hb88
            have hb49 := (hlow9 c (by omega)).trans hb48
            have hK99 : Keep [] h c ⟨hh9, cc9⟩ := ⟨by dsimp only; omega, fun x hx _ => (hlow9 x (by omega)).trans ((hlow8 x (by omega)).trans (hK77.2 x hx (by simp)))⟩
            have hdl := (dec6_len f1).1
            refine qE U J J (qE U J J (qA U J (qA U J (nK (sg 5 J (qM U J (qT (s := zl L) 33 57 U rfl Tryz.underlying9 rfl rfl ⟨by omega, by rw [zl_len]; omega⟩ ?_)))))))
            rw [zl_sub]
            refine qC U J (CR.mono (rNumber_cr H (L := (L.drop 33).take 24) (by rw [List.length_take]; omega)) ?_)
            rintro v ⟨hh10, cc10⟩ ⟨rfl, rfl, hk10⟩
            dsimp only at hk10
            refine qH U J Tryz.underlying38 Tryz.underlying3 wA ?_
            refine qA U J (nK (rS (sg 4 J (qM U J (qM U J (qK U J Tryz.underlying9 ?_))))))
            rw [txt_size]
            refine qB U J J J (nK ?_)
            refine rC U rfl (fun horig => ?_) (fun horig => ?_)
            · try simp only [dz, dy] at horig
              refine sg 2 J (qU U rfl i160 z160 rfl (by simp [Program.built, Instr.fill, Tryz.underlying160, Value.cells]; rfl) ?_)
              refine qV U rfl rfl gA p160 rfl rfl (by simp [Value.cells]) ?_
              refine nK (rR (kR (f_c U J (.inl J) J  (T.get_set _ _ _ _ |>.trans (if_pos J)) ((p160.1 _ _).trans J) ?_)))
              exact ⟨[], 0, 0, 0, 0, 23, rfl, .inl ⟨by decide, (hlw z ps hzp).1 (by omega)⟩, (hK99.set (.inl (by omega))).up (by omega)⟩
            · try simp only [dz, dy] at horig
              refine rK (kN (rS (rD [(8, 0), (11, 0)] (by decide +kernel) (by decide +kernel) (n := 17) rfl ?_)))
              refine qM U J (qM U J (qM U J (qT (s := zl L) 0 32 U rfl Tryz.underlying9 rfl rfl ⟨by omega, by rw [zl_len]; omega⟩ ?_)))
              rw [zl_sub, List.drop_zero]
              refine qC U J (CR.mono (rNumber_cr H (L := L.take 32) (by rw [List.length_take]; omega)) ?_)
              rintro v ⟨hh11, cc11⟩ ⟨rfl, rfl, hk11⟩
              dsimp only at hk11
              refine qU U rfl i49 z49 rfl (by simp [Program.built, Instr.fill, Tryz.underlying49, Value.cells]; rfl) ?_
              refine qM U J (qF U J fa203_1 (qL U J gA ((p3.1 _ _).trans J) ?_))
              refine qP U J J wA ?_
              refine qF U J fa203_2 (qL U J gA ((p3.1 _ _).trans J) ?_)
              refine qM U J (qK U J Tryz.underlying9 ?_)
              rw [txt_size]
              refine qP U J J J (qU U rfl i160 z160 rfl (by simp [Program.built, Instr.fill, Tryz.underlying160, Value.cells]; rfl) ?_)
              refine qV U rfl rfl gA p160 rfl rfl (by simp [Value.cells]) ?_
              refine ro_nilp ?_ ?_
              · exact all2 (pair_load U rfl rfl rfl rfl ((heapAt_old rfl (by omega)).trans hb89) ((p3.1 _ _).trans rfl) rfl (same_int _ _)) (pair_load U rfl rfl rfl rfl ((heapAt_old rfl (by omega)).trans hb89) ((p3.1 _ _).trans rfl) rfl (same_int _ _))
              refine kN (rR (f_c U J (.inl J) J  (T.get_set _ _ _ _ |>.trans (if_pos J)) ((p160.1 _ _).trans J) ?_))
              obtain ⟨b, hRb, hb1, hb2', hb3⟩ := (hlw z ps hzp).2 (by omega)
              exact ⟨(dec6 ps s).1, _, _, 57 + n + b2, _, 0, rfl, .inr ⟨rfl, b, hRb, hb1, hb2', hb3, by omega, fun x hx => hs256 x (dec6_mem f1 x hx), by omega, by omega, by omega⟩, (hK99.set (.inl (by omega))).up (by omega)⟩
end
end Go.Proofs.YtegjkhgaoabfcaaGreat
namespace Go.AE
section
variable {P : Program} {ov : OvT} {ops : Array Oper} {c0 d n : Nat} {ty : TypeId} {pos : String} {after : Array Edge} {l : List Oper} {i : Nat} {env : Env} {w : List (Nat × Value)} {h : Heap} {c : Nat} {sn : List (Nat × Heap)} {md : Heap} {Q : RS → Prop}
theorem q_skipU {op : Op} {g gd : Nat} {wv : Bool} {og : Oper} (U : env.length = n) (hw : wild op = false) (hg : ops[g]? = some og) (hd : og.dst = some gd) (hv : lk n w gd = some undef)
    (k : RO P ov ops c0 l (i + 1) ⟨E env ((d, undef) :: w), ⟨h, c⟩, sn, md⟩ Q) : RO P ov ops c0 (⟨some d, op, ty, pos, after, some (g, wv)⟩ :: l) i ⟨E env w, ⟨h, c⟩, sn, md⟩ Q :=
  ro_skip hw (by simp [Region.wanted, yieldedA, hg, hd, lk_get U hv, undef]) k
theorem q_skipUW {op : Op} {g gd : Nat} {wv : Bool} {og : Oper} (U : env.length = n) (hw : wild op = true) (hg : ops[g]? = some og) (hd : og.dst = some gd) (hv : lk n w gd = some undef)
    (k : RO P ov ops c0 l (i + 1) ⟨E env ((d, undef) :: w), ⟨h, c⟩, (i + 1, h) :: sn, md⟩ Q) : RO P ov ops c0 (⟨some d, op, ty, pos, after, some (g, wv)⟩ :: l) i ⟨E env w, ⟨h, c⟩, sn, md⟩ Q :=
  RO_skip ops c0 _ l i _ Q (by simp [Region.wanted, yieldedA, hg, hd, lk_get U hv, undef]) (by simp only [hw, if_true]; exact k)
end
end Go.AE
namespace Go.Proofs.YtegjkhgaoabfcaaGreat
open Go.AE
theorem crcCom_lt (x b : Nat) (hb : b < 4294967296) : crcCom x b < 4294967296 ∨ 4294967296 ≤ x := by
  rcases Nat.lt_or_ge x 4294967296 with q | q
  · left
    simp only [crcCom]
    exact Nat.xor_lt_two_pow (n := 32) (Nat.xor_lt_two_pow (n := 32) (by omega) (by omega)) hb
  · exact .inr q
theorem crcAll_lt : ∀ (l : List Nat) {x : Nat}, x < 4294967296 → (∀ y ∈ l, y < 4294967296) → l.foldl crcCom x < 4294967296
  | [], _, h, _ => h
  | y :: l, x, h, hy => crcAll_lt l (by rcases crcCom_lt x y (hy y (by simp)) with q | q; exact q; omega) (fun z hz => hy z (by simp [hz]))
theorem begR_ok {l : List Bool} (h : begR l 4 0 = 0) : 32 ≤ l.length ∧ 49 ≤ num ((l.drop 24).take 8) ∧ num ((l.drop 24).take 8) ≤ 57 := by
  have hs : ∀ f i, begR l (f + 1) i = 0 → 8 * i + 8 ≤ l.length ∧ (i < 3 → begR l f (i + 1) = 0) ∧ (¬ i < 3 → 49 ≤ num ((l.drop (8 * i)).take 8) ∧ num ((l.drop (8 * i)).take 8) ≤ 57) := by
    intro f i h
    simp only [begR] at h
    split at h
    · cases h
    · split at h
      · split at h
        · cases h
        · exact ⟨by omega, fun _ => h, fun q => by omega⟩
      · split at h
        · cases h
        · exact ⟨by omega, fun q => by omega, fun _ => by omega⟩
  have h3 := (hs 0 3 ((hs 1 2 ((hs 2 1 ((hs 3 0 h).2.1 (by omega))).2.1 (by omega))).2.1 (by omega)))
  exact ⟨h3.1, h3.2.2 (by omega)⟩
theorem want_get {i : Nat} (h : i < 3) : ((bitsL [66, 90, 104]).drop (8 * i)).take 8 = bitsN 8 ([66, 90, 104].getD i 0) ∧ [66, 90, 104].getD i 0 < 256 := by
  rcases (by omega : i = 0 ∨ i = 1 ∨ i = 2) with q | q | q <;> subst q <;> exact ⟨by decide +kernel, by decide⟩
theorem num8 {l : List Bool} (h : 8 ≤ l.length) (v : Nat) (hv : v < 256) : (l.take 8 == bitsN 8 v) = (num (l.take 8) == v) := by
  have e : (l.take 8).length = 8 := by rw [List.length_take]; omega
  rw [Bool.eq_iff_iff]; simp only [beq_iff_eq]
  constructor
  · intro q; rw [q, num_bitsN, Nat.mod_eq_of_lt hv]
  · intro q; have := bitsN_num (l.take 8); rw [e, q] at this; exact this.symm
section
variable {ov : OvT} (H : OvH ov)
include H
theorem rStream_cr {h : Heap} {c n cp : Nat} {l : List Nat} {a : Option Addr} (hS : SlR 38 1 (l.map uv) a n cp h.get) (hn : n ≤ 1000000) (hx : ∀ x ∈ l, x < 4294967296) :
    CR Tryz.prog ov 34 [.slice a n cp] ⟨h, c⟩ (fun v st => v = uv (l.foldl crcCom 0) ∧ Same h c st) := by
  have hln : l.length = n := by have := hS.len; simpa using this
  refine e_1 Tryz.func34 rfl (H _ (by decide)) Tryz.ntmps34 (by decide) ?_
  intro env U
  refine sg 1 J (qA U J (nK (sg 1 J (qA U J (nK (rS (sg 3 J (qM U J (q_lenL U J Tryz.underlying63 (qM U J (nK (rB ?_))))))))))))
  refine rL (fun m env' s' => ∃ j, m = n - j ∧ j ≤ n ∧ Hd 17 [(6, .slice a n cp), (7, nv n), (8, nv j), (3, uv ((l.take j).foldl crcCom 0))] env' ∧ s'.heap = h ∧ c ≤ s'.ctr) n ?_ ?_
  · exact ⟨0, rfl, Nat.zero_le _, Ho U ⟨rfl, rfl, rfl, rfl, trivial⟩, rfl, by dsimp only; omega⟩
  rintro m _ ⟨h2, c2⟩ ⟨j, rfl, hj, ⟨env, U, rfl⟩, he, hc2⟩
  dsimp only at he hc2
  subst he
  refine sg 1 J (qB U J J J (nK (rS ?_)))
  refine rC U rfl (fun hjn => ?_) (fun hjn => ?_)
  · try simp only [dz, dy] at hjn
    obtain ⟨x, hx1⟩ : ∃ x, l[j]? = some x := ⟨_, List.getElem?_eq_getElem (by omega)⟩
    have hx2 := hx x (List.mem_of_getElem? hx1)
    obtain ⟨mb, rfl, rfl, hmb⟩ := hS.pos (by omega)
    have htk : (l.take (j + 1)).foldl crcCom 0 = crcCom ((l.take j).foldl crcCom 0) x := by rw [List.take_add_one, hx1]; simp
    have hlt := crcAll_lt (l.take j) (x := 0) (by omega) (fun y hy => hx y (List.mem_of_mem_take hy))
    refine rK (kN (rS (rB (sg 3 J (qI U rfl rfl e63 ⟨by omega, by omega⟩ ?_)))))
    refine qL U rfl aA ((p38.1 _ _).trans (by simp [hx1])) (v := uv x) ?_
    refine qA U J (nK (rg 4 J (qM U J (qM U J (qC U J (CR.mono (rCombine_cr H hlt hx2) ?_))))))
    rintro v ⟨hh1, cc1⟩ ⟨rfl, rfl, hk⟩
    try dsimp only at hk
    refine qA U J (rN (kO (kN (rg 2 J (qP U J J wA ?_)))))
    refine qM U J (nK ?_)
    exact ⟨n - (j + 1), by omega, j + 1, rfl, by omega, Ho U ⟨rfl, rfl, rfl, by rw [htk]; rfl, trivial⟩, rfl, by dsimp only at *; omega⟩
  · try simp only [dz, dy] at hjn
    refine r_exit (kE (kE (kB (kN (sg 2 J (qM U J (qA U J (nK (rR (f_1 U J (.inl J) J ?_))))))))))
    have ej : j = n := by omega
    subst ej
    rw [List.take_of_length_le (by omega)]
    exact ⟨rfl, rfl, by dsimp only; omega⟩
theorem rBegins22_cr {h : Heap} {c : Nat} {M : List Bool} (hM : M.length ≤ 1000000) :
    CR Tryz.prog ov 67 [.string (zs M)] ⟨h, c⟩ (fun v st => v = nv (begR M 4 0) ∧ Same h c st) := by
  have hsz : (zs M).size = M.length := by rw [txt_size, zl_len]
  have hwl : (zl (bitsL [66, 90, 104])).length = 24 := by rw [zl_len, bitsL_length]; rfl
  refine e_1 Tryz.func67 rfl (H _ (by decide)) Tryz.ntmps67 (by decide) ?_
  intro env U
  refine sg 1 J (qA U J (nK (sg 2 J (qC U J (CR.mono (rBits_cr H (by decide)) ?_)))))
  rintro v ⟨hh1, cc1⟩ ⟨rfl, rfl, hk⟩
  try dsimp only at hk
  refine qA U J (nK (rS (sg 1 J (qM U J (nK (rB ?_))))))
  refine rL (fun m env' s' => ∃ i, m = 4 - i ∧ i ≤ 4 ∧ Hd 49 [(0, .string (zs M)), (3, .string (zs (bitsL [66, 90, 104]))), (7, nv i)] env' ∧ begR M 4 0 = begR M (4 - i) i ∧ s'.heap = h ∧ c ≤ s'.ctr) 4 ?_ ?_
  · exact ⟨0, rfl, Nat.zero_le _, Ho U ⟨rfl, rfl, rfl, trivial⟩, rfl, rfl, by dsimp only at *; omega⟩
  rintro m _ ⟨h2, c2⟩ ⟨i, rfl, hi, ⟨env, U, rfl⟩, hbe, he, hc2⟩
  dsimp only at he hc2
  subst he
  refine sg 1 J (qB U J J J (nK (rS ?_)))
  refine rC U rfl (fun hi4 => ?_) (fun hi4 => ?_)
  · try simp only [dz, dy] at hi4
    have hb1 : begR M (4 - i) i = if M.length < 8 * i + 8 then 24 else if i < 3 then (if num ((M.drop (8 * i)).take 8) ≠ [66, 90, 104].getD i 0 then 20 else begR M (4 - (i + 1)) (i + 1)) else if num ((M.drop (8 * i)).take 8) < 49 ∨ 57 < num ((M.drop (8 * i)).take 8) then 20 else begR M (4 - (i + 1)) (i + 1) := by rw [show 4 - i = (4 - (i + 1)) + 1 by omega]; rfl
    refine rK (kN (rS (rB (sg 2 J (qM U J (qA U J (nK (rS (sg 6 J (qM U J (qK U J Tryz.underlying9 ?_)))))))))))
    rw [hsz]
    refine qM U J (q_mul U J J wA ?_)
    refine qP U J J wA ?_
    refine qB U J J J (nK ?_)
    refine rC U rfl (fun h24 => ?_) (fun h24 => ?_)
    · try simp only [dz, dy] at h24
      refine sg 1 J (qA U J (nK (rR (kR (k_bloR (kR (kR (k_bloR (kR (f_1 U J (.inl J) J ?_))))))))))
      rw [hbe, hb1, if_pos (by omega)]
      exact ⟨rfl, rfl, by dsimp only; omega⟩
    · try simp only [dz, dy] at h24
      rw [if_neg (by omega)] at hb1
      have hl8 : 8 ≤ (M.drop (8 * i)).length := by rw [List.length_drop]; omega
      refine rK (kN (sg 8 J (qM U J (qM U J (q_mul U J J wA ?_)))))
      refine qM U J (q_mul U J J wA ?_)
      refine qP U J J wA ?_
      refine qT (s := zl M) (8 * i) (8 * i + 8) U rfl Tryz.underlying9 rfl rfl ⟨by omega, by rw [zl_len]; omega⟩ ?_
      rw [zl_sub, show 8 * i + 8 - 8 * i = 8 by omega]
      refine qA U J (nK (rS (sg 13 J (qM U J (qB U J J J (qM U J ?_))))))
      refine q_case U (rfl : lk _ _ 25 = _) (fun h3 => ?_) (fun h3 => ?_)
      · have h3_ := h3
        try simp only [dz] at h3_
        have hi3 : i < 3 := by omega
        obtain ⟨w1, w2⟩ := want_get hi3
        rw [if_pos hi3] at hb1
        refine qG U J J J h3 (qM U J (qG U J J J h3 (qM U J (qG U J J J h3 (qM U J (qG U J J J h3 (q_mul U J J wA ?_)))))))
        refine qG U J J J h3 (qM U J (qG U J J J h3 (q_mul U J J wA ?_)))
        refine qG U J J J h3 (qP U J J wA ?_)
        refine qG U J J J h3 (qT (s := zl (bitsL [66, 90, 104])) (8 * i) (8 * i + 8) U rfl Tryz.underlying9 rfl rfl ⟨by omega, by rw [hwl]; omega⟩ ?_)
        refine qG U J J J h3 ?_
        rw [zl_sub, show 8 * i + 8 - 8 * i = 8 by omega, w1]
        refine qB U J J (v := .bool !(num ((M.drop (8 * i)).take 8) == [66, 90, 104].getD i 0)) (congrArg (fun b => some (Value.bool !b)) ((zs_eq _ _).trans (num8 hl8 _ w2))) (qQ U J J J (if_pos h3) (nK ?_))
        refine rC U rfl (fun hne => ?_) (fun hne => ?_)
        · try simp only [dz, dy] at hne
          refine sg 1 J (qA U J (nK (rR (kR (k_bloR (kR (kR (k_bloR (kR (f_1 U J (.inl J) J ?_))))))))))
          rw [hbe, hb1, if_pos (by simpa using hne)]
          exact ⟨rfl, rfl, by dsimp only; omega⟩
        · try simp only [dz, dy] at hne
          rw [if_neg (by simpa using hne)] at hb1
          have h33 : ((i : Int) == 3) = false := by simp; omega
          refine rK (kN (sg 12 J (qM U J (qB U J J J (qM U J (qS U rfl rfl rfl rfl (by rw [h33]; decide) ?_))))))
          refine q_skipW U rfl rfl rfl rfl (by rw [h33]; decide) ?_
          refine qS U rfl rfl rfl rfl (by rw [h33]; decide) ?_
          refine qS U rfl rfl rfl rfl (by rw [h33]; decide) ?_
          refine q_skipU U J J J J (q_skipUW U J J J J (q_skipU U J J J J (qS U rfl rfl rfl rfl (by rw [h33]; decide) ?_)))
          refine qQ U rfl rfl rfl (if_neg (by rw [h33]; decide)) ?_
          refine nK (rF U rfl (by rfl) ?_)
          refine rK (kO (kN (rg 2 J (qP U J J wA ?_))))
          refine qM U J (nK ?_)
          exact ⟨4 - (i + 1), by omega, i + 1, rfl, by omega, Ho U ⟨rfl, rfl, rfl, trivial⟩, by rw [hbe, hb1], rfl, by dsimp only; omega⟩
      · have h3_ := h3
        try simp only [dz] at h3_
        refine qS U rfl rfl rfl rfl (by rw [h3]; decide) ?_
        refine qS U rfl rfl rfl rfl (by rw [h3]; decide) ?_
        refine qS U rfl rfl rfl rfl (by rw [h3]; decide) ?_
        refine qS U rfl rfl rfl rfl (by rw [h3]; decide) ?_
        refine qS U rfl rfl rfl rfl (by rw [h3]; decide) ?_
        refine qS U rfl rfl rfl rfl (by rw [h3]; decide) ?_
        refine qS U rfl rfl rfl rfl (by rw [h3]; decide) ?_
        refine qS U rfl rfl rfl rfl (by rw [h3]; decide) ?_
        refine qS U rfl rfl rfl rfl (by rw [h3]; decide) ?_
        refine qQ U rfl rfl rfl (if_neg (by rw [h3]; decide)) ?_
        refine nK (rF U rfl (by rfl) ?_)
        refine rK (kN (sg 12 J ?_))
        have hi3 : ¬ i < 3 := by omega
        rw [if_neg hi3] at hb1
        have e8 := num_lt ((M.drop (8 * i)).take 8)
        rw [List.length_take, Nat.min_eq_left hl8] at e8
        have h33 : ((i : Int) == 3) = true := by simp; omega
        refine qM U J (qB U J J J (qM U J (qG U J J J h33 (qM U J (qG U J J J h33 (qC U J (CR.mono (rNumber_cr H (L := (M.drop (8 * i)).take 8) (by rw [List.length_take]; omega)) ?_)))))))
        rintro v ⟨hh2, cc2⟩ ⟨rfl, rfl, hk⟩
        try dsimp only at hk
        refine qG U J J J h33 (qB U J J J (qG U J J J h33 (qM U J ?_)))
        refine q_case U (rfl : lk _ _ 42 = _) (fun hlo => ?_) (fun hlo => ?_)
        · have hlo_ := hlo
          try simp only [dz] at hlo_
          refine qS U rfl rfl rfl rfl (by rw [hlo]; decide) ?_
          refine q_skipW U rfl rfl rfl rfl (by rw [hlo]; decide) ?_
          refine qS U rfl rfl rfl rfl (by rw [hlo]; decide) ?_
          refine qG U J J J h33 (qQ U J J J (if_pos hlo) (qQ U J J J (if_pos h33) (nK (rT U rfl (by rfl) ?_))))
          refine sg 1 J (qA U J (nK (rR (k_bloR (kR (kR (k_bloR (kR (f_1 U J (.inl J) J ?_)))))))))
          rw [hbe, hb1, if_pos (by omega)]
          exact ⟨rfl, rfl, by dsimp only at *; omega⟩
        · have hlo_ := hlo
          try simp only [dz] at hlo_
          refine qG U J J J hlo (qM U J (qG U J J J hlo (qC U J (CR.mono (rNumber_cr H (L := (M.drop (8 * i)).take 8) (by rw [List.length_take]; omega)) ?_))))
          rintro v ⟨hh3, cc3⟩ ⟨rfl, rfl, hk⟩
          try dsimp only at hk
          refine qG U J J J hlo (qB U J J J (qG U J J J h33 (qQ U rfl rfl rfl (if_neg (by rw [hlo]; decide)) ?_)))
          refine qQ U J J J (if_pos h33) (nK ?_)
          refine rC U rfl (fun hhi => ?_) (fun hhi => ?_)
          · try simp only [dz, dy] at hhi
            refine sg 1 J (qA U J (nK (rR (k_bloR (kR (kR (k_bloR (kR (f_1 U J (.inl J) J ?_)))))))))
            rw [hbe, hb1, if_pos (by omega)]
            exact ⟨rfl, rfl, by dsimp only at *; omega⟩
          · try simp only [dz, dy] at hhi
            rw [if_neg (by omega)] at hb1
            refine rK (kO (kN (rg 2 J (qP U J J wA ?_))))
            refine qM U J (nK ?_)
            exact ⟨4 - (i + 1), by omega, i + 1, rfl, by omega, Ho U ⟨rfl, rfl, rfl, trivial⟩, by rw [hbe, hb1], rfl, by dsimp only at *; omega⟩
  · try simp only [dz, dy] at hi4
    refine r_exit (kE (kE (kB (kN (sg 1 J (qA U J (nK (rR (f_1 U J (.inl J) J ?_)))))))))
    have ei : i = 4 := by omega
    subst ei
    rw [hbe]
    exact ⟨rfl, rfl, by dsimp only; omega⟩
end
theorem openR_ok {s t : List Nat} {o sum : Nat} (h256 : ∀ x ∈ s, x < 256) (h : openR s o sum = .ok t) : t.length ≤ 251 * s.length := by
  simp only [openR] at h
  split at h
  · cases h
  · rename_i out hu
    split at h
    · cases h; have := unpk_len (unbw_lt (o := o) h256) hu; rw [unbw_len] at this; exact this
    · cases h
theorem openR_err {s : List Nat} {o sum e : Nat} (h : openR s o sum = .error e) : e ≠ 0 := by
  simp only [openR] at h
  repeat' split at h
  all_goals first | (cases h; decide) | (cases h; done)
section
variable {ov : OvT} (H : OvH ov)
include H
theorem rOpenE_cr {h : Heap} {c o sum : Nat} {s : List Nat} (h256 : ∀ x ∈ s, x < 256) (hn : s.length ≤ 900000) (ho : o < s.length) (hs : sum < 4294967296) :
    CR Tryz.prog ov 26 [.agg #[.string (txt s), nv o, uv sum]] ⟨h, c⟩ (fun v st => ∃ (t : List Nat) (e : Nat), v = .tuple #[.string (txt t), nv e] ∧ ((e ≠ 0 ∧ openR s o sum = .error e) ∨ (e = 0 ∧ openR s o sum = .ok t)) ∧ Keep [] h c st) := by
  refine (rOpen_cr H h256 hn ho hs).mono ?_
  rintro v st ⟨q, k⟩
  cases hu : openR s o sum with
  | error e => rw [hu] at q; exact ⟨[], e, q, .inl ⟨openR_err hu, rfl⟩, k⟩
  | ok t => rw [hu] at q; exact ⟨t, 0, q, .inr ⟨rfl, rfl⟩, k⟩
theorem rOne_cr {h : Heap} {c k room : Nat} {ALL : List Bool} {u : Un} {out : List Nat} (hL : ALL.length ≤ 1000000) (hk : k ≤ ALL.length) (hr : 5 ≤ room ∧ room ≤ 900000) (hd : u.due = 1) (ha : u.at_ = 0) (ht : u.total = 0) (hru : u.level * u.unit = room) :
    CR Tryz.prog ov 69 [.string (zs (ALL.drop k)), nv room] ⟨h, c⟩ (fun v st => ∃ (t : List Nat) (n e : Nat), v = .agg #[.string (txt t), nv n, nv e] ∧
      ((e ≠ 0 ∧ RunW ALL u out k (.error e)) ∨ (e = 0 ∧ k + n ≤ ALL.length ∧ 80 ≤ n ∧ t.length ≤ 225900000 * n ∧ ∃ u' : Un, u'.due = 0 ∧ u'.at_ = 0 ∧ u'.ended = true ∧ u'.unit = u.unit ∧ ∀ rr, RunW ALL u' (out ++ t) (k + n + (ALL.length - (k + n)) % 8) rr → RunW ALL u out k rr)) ∧ Keep [] h c st) := by
  obtain ⟨L, hLd⟩ : ∃ L, L = ALL.drop k := ⟨_, rfl⟩
  have hLl : L.length = ALL.length - k := by rw [hLd]; exact List.length_drop
  have hLk : ∀ m, L.drop m = ALL.drop (k + m) := fun m => by rw [hLd]; exact List.drop_drop ..
  rw [← hLd]
  have hsz : (zs L).size = L.length := by rw [txt_size, zl_len]
  refine e_2 Tryz.func69 rfl (H _ (by decide)) Tryz.ntmps69 (by decide) ?_
  intro env U
  refine sg 1 J (qZ i114 z114 J (nK (sg 3 J (qU U rfl i114 z114 rfl (by simp [Program.built, Instr.fill, Tryz.underlying114, Value.cells]; rfl) ?_))))
  refine qZ i114 z114 J (qV U rfl rfl gA p114 rfl rfl (by simp [Value.cells]) ?_)
  refine nK (sg 1 J (qA U J (nK (rS (sg 4 J (qM U J (qK U J Tryz.underlying9 ?_)))))))
  rw [hsz]
  refine qP U J J wA ?_
  refine qM U J (nK (rB ?_))
  refine rL (fun m env' s' => ∃ (i n : Nat) (t sums : List Nat) (a : Option Addr) (cp : Nat) (u1 : Un), m = L.length + 1 - i ∧ i ≤ L.length + 1 ∧ 48 * i ≤ n ∧ n ≤ L.length ∧ Hd 103 [(0, .string (zs L)), (1, nv room), (4, ptr c), (5, ptr (c + 2)), (6, .slice a sums.length cp), (15, nv (L.length + 1)), (16, nv i)] env' ∧ sums.length ≤ i ∧ (∀ x ∈ sums, x < 4294967296) ∧ t.length ≤ 225900000 * n ∧ Un.due u1 = 1 ∧ u1.level = u.level ∧ u1.unit = u.unit ∧ u1.at_ = 0 ∧ u1.total = sums.foldl crcCom 0 ∧ (∀ rr, RunW ALL u1 (out ++ t) (k + n) rr → RunW ALL u out k rr) ∧ s'.heap.get c = some ⟨[nostr, nv 0, nv 0], 114, 0⟩ ∧ s'.heap.get (c + 2) = some ⟨[.string (txt t), nv n, nv 0], 114, 0⟩ ∧ SlR 38 1 (sums.map uv) a sums.length cp s'.heap.get ∧ (∀ z ∈ own a, c + 9 ≤ z ∧ z < s'.ctr) ∧ c + 9 ≤ s'.ctr ∧ Keep [] h c s') (L.length + 1) ?_ ?_
  · refine ⟨0, 0, [], [], none, 0, u, rfl, Nat.zero_le _, Nat.zero_le _, Nat.zero_le _, Ho U ⟨rfl, rfl, rfl, rfl, rfl, rfl, rfl, trivial⟩, Nat.zero_le _, by simp, Nat.zero_le _, hd, rfl, rfl, ha, ht, fun rr q => by simpa using q, ?_, ?_, SlR.nil, by simp [own], by dsimp only; omega, ((((Keep.refl (Nat.le_refl c)).set (.inl oA)).set (.inl oA)).set (.inl oA)).up oA⟩
    · dsimp only; rw [T.get_set, if_neg (by omega), T.get_set, if_neg (by omega), T.get_set, if_pos (by omega)]; rfl
    · dsimp only; rw [T.get_set, if_pos (by omega)]; rfl
  rintro m _ ⟨h2, c2⟩ ⟨i, n, t, sums, a, cp, u1, rfl, hi, hin, hnl, ⟨env, U, rfl⟩, hsl, hs32, htl, q1, q2, q3, q4, q5, hRed, hb4, hb5, hS, hO, hc2, hK⟩
  dsimp only at hb4 hb5 hS hO hc2
  have hdn : (ALL.drop (k + n)).length = L.length - n := by rw [← hLk]; exact List.length_drop
  have hroom : u1.level * u1.unit = room := by rw [q2, q3]; exact hru
  refine sg 1 J (qB U J J J (nK (rS ?_)))
  refine rC U rfl (fun hilt => ?_) (fun hilt => ?_)
  · try simp only [dz, dy] at hilt
    refine rK (kN (rS (rB (rS (sg 6 J (qM U J (qK U J Tryz.underlying9 ?_)))))))
    rw [hsz]
    refine qF U J fa114_1 (qL U J gA ((p3.1 _ _).trans J) ?_)
    refine q_sub U J J wA ?_
    refine qB U J J J (nK ?_)
    refine rC U rfl (fun h48 => ?_) (fun h48 => ?_)
    · try simp only [dz, dy] at h48
      refine sg 2 J (qU U rfl i114 z114 rfl (by simp [Program.built, Instr.fill, Tryz.underlying114, Value.cells]; rfl) ?_)
      refine qV U rfl rfl gA p114 rfl rfl (by simp [Value.cells]) ?_
      refine nK (rR (kR (k_bloR (kR (kR (k_bloR (kR (f_c U J (.inl J) J  (T.get_set _ _ _ _ |>.trans (if_pos J)) ((p114.1 _ _).trans J) ?_))))))))
      exact ⟨[], 0, 24, rfl, .inl ⟨by decide, hRed _ (magic_short q1 (by omega))⟩, (hK.set (.inl (by omega))).up (by omega)⟩
    · try simp only [dz, dy] at h48
      have h48l : 48 ≤ (ALL.drop (k + n)).length := by omega
      refine rK (kN (sg 8 J (qM U J (qF U J fa114_1 (qL U J gA ((p3.1 _ _).trans J) ?_)))))
      refine qF U J fa114_1 (qL U J gA ((p3.1 _ _).trans J) ?_)
      refine qP U J J wA ?_
      refine qT (s := zl L) n (n + 48) U rfl Tryz.underlying9 rfl rfl ⟨by omega, by rw [zl_len]; omega⟩ ?_
      rw [zl_sub, Nat.add_sub_cancel_left, hLk]
      refine qA U J (nK (sg 4 J (qF U J fa114_1 (qL U J gA ((p3.1 _ _).trans J) ?_))))
      refine qP U J J wA ?_
      refine qA U J (nK (rS (sg 2 J (qM U J (qB U J J (v := .bool ((ALL.drop (k + n)).take 48 == bitsN 48 25779555029136)) (congrArg (fun b => some (Value.bool b)) (zs_eq ((ALL.drop (k + n)).take 48) (bitsN 48 25779555029136))) (nK ?_))))))
      refine rC U rfl (fun hend => ?_) (fun hend => ?_)
      · try simp only [dz, dy] at hend
        have hend' : (ALL.drop (k + n)).take 48 = bitsN 48 25779555029136 := by simpa using hend
        have hsl2 : (ALL.drop (k + n + 48)).length = L.length - (n + 48) := by rw [List.length_drop]; omega
        refine rS (sg 5 J (qM U J (qK U J Tryz.underlying9 ?_)))
        rw [hsz]
        refine qM U J (q_sub U J J wA ?_)
        refine qB U J J J (nK ?_)
        refine rC U rfl (fun h32 => ?_) (fun h32 => ?_)
        · try simp only [dz, dy] at h32
          refine sg 2 J (qU U rfl i114 z114 rfl (by simp [Program.built, Instr.fill, Tryz.underlying114, Value.cells]; rfl) ?_)
          refine qV U rfl rfl gA p114 rfl rfl (by simp [Value.cells]) ?_
          refine nK (rR (kR (kR (k_bloR (kR (kR (k_bloR (kR (f_c U J (.inl J) J  (T.get_set _ _ _ _ |>.trans (if_pos J)) ((p114.1 _ _).trans J) ?_)))))))))
          exact ⟨[], 0, 24, rfl, .inl ⟨by decide, hRed _ (magic_end q1 h48l hend' (by simp only [Un.sumS]; rw [if_pos (by omega)]; rfl))⟩, (hK.set (.inl (by omega))).up (by omega)⟩
        · try simp only [dz, dy] at h32
          refine rK (kN (rS (sg 9 J (qM U J (qM U J (qM U J (qP U J J wA ?_)))))))
          refine qT (s := zl L) (n + 48) (n + 48 + 32) U rfl Tryz.underlying9 rfl rfl ⟨by omega, by rw [zl_len]; omega⟩ ?_
          rw [zl_sub, Nat.add_sub_cancel_left, hLk, ← Nat.add_assoc]
          refine qC U J (CR.mono (rNumber_cr H (L := (ALL.drop (k + n + 48)).take 32) (by rw [List.length_take]; omega)) ?_)
          rintro v ⟨hh1, cc1⟩ ⟨rfl, rfl, hk1⟩
          dsimp only at hk1
          refine qM U J (qC U J (CR.mono (rStream_cr H hS oA hs32) ?_))
          rintro v ⟨hh2, cc2⟩ ⟨rfl, rfl, hk2⟩
          dsimp only at hk2
          refine qB U J J J (nK ?_)
          refine rC U rfl (fun hsum => ?_) (fun hsum => ?_)
          · try simp only [dz, dy] at hsum
            refine sg 2 J (qU U rfl i114 z114 rfl (by simp [Program.built, Instr.fill, Tryz.underlying114, Value.cells]; rfl) ?_)
            refine qV U rfl rfl gA p114 rfl rfl (by simp [Value.cells]) ?_
            refine nK (rR (kR (kR (k_bloR (kR (kR (k_bloR (kR (f_c U J (.inl J) J  (T.get_set _ _ _ _ |>.trans (if_pos J)) ((p114.1 _ _).trans J) ?_)))))))))
            have hne : num ((ALL.drop (k + n + 48)).take 32) ≠ u1.total := by rw [q5]; intro q; rw [q] at hsum; simp at hsum
            exact ⟨[], 0, 21, rfl, .inl ⟨by decide, hRed _ (magic_end q1 h48l hend' (by simp only [Un.sumS]; rw [if_neg (by omega), if_pos hne]; rfl))⟩, (hK.set (.inl (by omega))).up (by omega)⟩
          · try simp only [dz, dy] at hsum
            have heq : num ((ALL.drop (k + n + 48)).take 32) = u1.total := by rw [q5]; simp only [bne_eq_false_iff_eq] at hsum; omega
            refine rK (kN (sg 6 J (qF U J fa114_0 (qL U J gA ((p9.1 _ _).trans J) ?_))))
            refine qM U J (qP U J J wA ?_)
            refine qU U rfl i114 z114 rfl (by simp [Program.built, Instr.fill, Tryz.underlying114, Value.cells]; rfl) ?_
            refine qV U rfl rfl gA p114 rfl rfl (by simp [Value.cells]) ?_
            refine nK (rR (kR (k_bloR (kR (kR (k_bloR (kR (f_c U J (.inl J) J  (T.get_set _ _ _ _ |>.trans (if_pos J)) ((p114.1 _ _).trans J) ?_))))))))
            have e80 : k + n + 48 + (32 + (L.length - (n + 48) - 32) % 8) = k + (n + 48 + 32) + (ALL.length - (k + (n + 48 + 32))) % 8 := by omega
            exact ⟨t, n + 48 + 32, 0, rfl, .inr ⟨rfl, by omega, by omega, by omega, { u1 with due := 0, ended := true }, rfl, q4, rfl, q3, fun rr hh => hRed rr (magic_end q1 h48l hend' (by simp only [Un.sumS]; rw [if_neg (by omega), if_neg (by simpa using heq)]; dsimp only; rw [hsl2, e80]; exact hh))⟩, (hK.set (.inl (by omega))).up (by omega)⟩
      · try simp only [dz, dy] at hend
        have hend' : (ALL.drop (k + n)).take 48 ≠ bitsN 48 25779555029136 := by simpa using hend
        refine rK (kN (rS (sg 2 J (qM U J (qB U J J (v := .bool !((ALL.drop (k + n)).take 48 == bitsN 48 54156738319193)) (congrArg (fun b => some (Value.bool !b)) (zs_eq ((ALL.drop (k + n)).take 48) (bitsN 48 54156738319193))) (nK ?_))))))
        refine rC U rfl (fun hmag => ?_) (fun hmag => ?_)
        · try simp only [dz, dy] at hmag
          refine sg 2 J (qU U rfl i114 z114 rfl (by simp [Program.built, Instr.fill, Tryz.underlying114, Value.cells]; rfl) ?_)
          refine qV U rfl rfl gA p114 rfl rfl (by simp [Value.cells]) ?_
          refine nK (rR (kR (k_bloR (kR (kR (k_bloR (kR (f_c U J (.inl J) J  (T.get_set _ _ _ _ |>.trans (if_pos J)) ((p114.1 _ _).trans J) ?_))))))))
          exact ⟨[], 0, 20, rfl, .inl ⟨by decide, hRed _ (magic_bad q1 h48l (by simpa using hmag) hend')⟩, (hK.set (.inl (by omega))).up (by omega)⟩
        · try simp only [dz, dy] at hmag
          have hmag' : (ALL.drop (k + n)).take 48 = bitsN 48 54156738319193 := by simpa using hmag
          have hB : ∀ rr, RunW ALL { u1 with block := some (Bl.new room), due := 2 } (out ++ t) (k + n + 48) rr → RunW ALL u out k rr := fun rr q => hRed rr (magic_block q1 h48l hmag' (by rw [hroom]; exact q))
          refine rK (kN (sg 7 J (qM U J (qM U J (qT (s := zl L) (n + 48) (zl L).length U rfl Tryz.underlying9 rfl rfl ⟨by rw [zl_len]; omega, Nat.le_refl _⟩ ?_)))))
          rw [zl_rest, hLk, ← Nat.add_assoc]
          refine qM U J (qC U J (CR.mono (rBlk_cr H (L := ALL.drop (k + n + 48)) (by rw [List.length_drop]; omega) hr) ?_))
          rintro v ⟨hh1, cc1⟩ ⟨last, o, sum, bits, held, e1, rfl, hcase, hK1⟩
          have hcc1 := hK1.1
          dsimp only at hcc1 hcase
          refine qZ i160 z160 J (qV U rfl rfl gA p160 rfl rfl (by simp [Value.cells]) ?_)
          refine ro_gen (fun H6 hH6 => ?_)
          have hx6 : ∀ x, x ≠ c2 + 28 → H6.get x = hh1.get x := fun x hx => by rw [hH6]; simp only [T.get_set]; rw [if_neg (by omega), if_neg (by omega)]
          have hb9 : H6.get (c2 + 28) = some ⟨[.string (txt last), nv o, uv sum, nv bits, iv held, nv e1], 160, 0⟩ := by rw [hH6, T.get_set, if_pos (by omega)]; rfl
          have hlow : ∀ x, x < c2 → H6.get x = h2.get x := fun x hx => (hx6 x (by omega)).trans (hK1.2 x (by omega) (by simp))
          have hb46 := (hlow c (by omega)).trans hb4
          have hb56 := (hlow (c + 2) (by omega)).trans hb5
          have hK6 : Keep [] h c ⟨H6, cc1⟩ := ⟨by dsimp only; omega, fun x hx _ => (hlow x (by omega)).trans (hK.2 x hx (by simp))⟩
          refine nK (rS (sg 3 J (qF U J fa160_3 (qL U J gA ((p3.1 _ _).trans J) ?_))))
          refine qB U J J J (nK ?_)
          refine rC U rfl (fun he3 => ?_) (fun he3 => ?_)
          · try simp only [dz, dy] at he3
            refine sg 2 J (qU U rfl i114 z114 rfl (by simp [Program.built, Instr.fill, Tryz.underlying114, Value.cells]; rfl) ?_)
            refine qV U rfl rfl gA p114 rfl rfl (by simp [Value.cells]) ?_
            refine nK (rR (kR (k_bloR (kR (kR (k_bloR (kR (f_c U J (.inl J) J  (T.get_set _ _ _ _ |>.trans (if_pos J)) ((p114.1 _ _).trans J) ?_))))))))
            have e3 : e1 = 3 := by omega
            have hd3 : Runs Bl.step blF (ALL.drop (k + n + 48)) (Bl.new room) 0 (.error 3) := by rcases hcase with q | q; (rw [e3] at q; exact q.2); (exfalso; have := q.1; omega)
            exact ⟨[], 0, 24, rfl, .inl ⟨by decide, hB _ ((blk_law (u := { u1 with due := 2 }) (out := out ++ t) hd3 rfl rfl).1 3 rfl)⟩, (hK6.set (.inl (by omega))).up (by omega)⟩
          · try simp only [dz, dy] at he3
            refine rK (kN (rS (sg 3 J (qF U J fa160_3 (qL U J gA ((p3.1 _ _).trans J) ?_)))))
            refine qB U J J J (nK ?_)
            refine rC U rfl (fun herr => ?_) (fun herr => ?_)
            · try simp only [dz, dy] at herr
              refine sg 4 J (qF U J fa160_3 (qL U J gA ((p3.1 _ _).trans J) ?_))
              refine qU U rfl i114 z114 rfl (by simp [Program.built, Instr.fill, Tryz.underlying114, Value.cells]; rfl) ?_
              refine qV U rfl rfl gA p114 rfl rfl (by simp [Value.cells]) ?_
              refine nK (rR (kR (k_bloR (kR (kR (k_bloR (kR (f_c U J (.inl J) J  (T.get_set _ _ _ _ |>.trans (if_pos J)) ((p114.1 _ _).trans J) ?_))))))))
              have hd3 : e1 ≠ 0 ∧ Runs Bl.step blF (ALL.drop (k + n + 48)) (Bl.new room) 0 (.error e1) := by rcases hcase with q | ⟨q, _⟩; exact q; (subst q; simp at herr)
              have hlw := (blk_law (u := { u1 with due := 2 }) (out := out ++ t) hd3.2 rfl rfl).1 e1 rfl
              rw [if_neg (by intro q; subst q; simp at he3)] at hlw
              exact ⟨[], 0, e1, rfl, .inl ⟨hd3.1, hB _ hlw⟩, (hK6.set (.inl (by omega))).up (by omega)⟩
            · try simp only [dz, dy] at herr
              obtain ⟨rfl, b, hRb, rfl, rfl, rfl, ho, h256, hlr, hs32', hbits⟩ : e1 = 0 ∧ ∃ b, Runs Bl.step blF (ALL.drop (k + n + 48)) (Bl.new room) 0 (.ok (b, bits)) ∧ b.last = last ∧ b.from_ = o ∧ b.sum = sum ∧ o < last.length ∧ (∀ x ∈ last, x < 256) ∧ last.length ≤ room ∧ sum < 4294967296 ∧ bits ≤ (ALL.drop (k + n + 48)).length := by rcases hcase with ⟨q, _⟩ | q; (exfalso; simp at herr; omega); exact q
              rw [List.length_drop] at hbits
              have hlw := (blk_law (u := { u1 with due := 2 }) (out := out ++ t) hRb rfl rfl).2 b bits rfl
              refine rK (kN (sg 8 J (qF U J fa160_0 (qL U J gA ((p49.1 _ _).trans J) ?_))))
              refine qC U J (CR.mono (rOpenE_cr H h256 oA ho hs32') ?_)
              rintro v ⟨hh3, cc3⟩ ⟨t2, e5, rfl, hcase5, hK3⟩
              have hcc3 := hK3.1
              dsimp only at hcc3
              refine qM U J ?_
              have hlow3 : ∀ x, x < cc1 → hh3.get x = H6.get x := fun x hx => hK3.2 x (by omega) (by simp)
              have hb43 := (hlow3 c (by omega)).trans hb46
              have hb53 := (hlow3 (c + 2) (by omega)).trans hb56
              have hb93 := (hlow3 (c2 + 28) (by omega)).trans hb9
              have hK33 : Keep [] h c ⟨hh3, cc3⟩ := ⟨by dsimp only; omega, fun x hx _ => (hlow3 x (by omega)).trans (hK6.2 x hx (by simp))⟩
              refine qE U J J (qE U J J (qA U J (qA U J (nK (rS (sg 2 J (qM U J (qB U J J J (nK ?_)))))))))
              refine rC U rfl (fun herr5 => ?_) (fun herr5 => ?_)
              · try simp only [dz, dy] at herr5
                refine sg 3 J (qM U J (qU U rfl i114 z114 rfl (by simp [Program.built, Instr.fill, Tryz.underlying114, Value.cells]; rfl) ?_))
                refine qV U rfl rfl gA p114 rfl rfl (by simp [Value.cells]) ?_
                refine nK (rR (kR (k_bloR (kR (kR (k_bloR (kR (f_c U J (.inl J) J  (T.get_set _ _ _ _ |>.trans (if_pos J)) ((p114.1 _ _).trans J) ?_))))))))
                have hd5 : e5 ≠ 0 ∧ openR b.last b.from_ b.sum = .error e5 := by rcases hcase5 with q | ⟨q, _⟩; exact q; (subst q; simp at herr5)
                rw [hd5.2] at hlw
                exact ⟨[], 0, e5, rfl, .inl ⟨hd5.1, hB _ (hlw _ rfl)⟩, (hK33.set (.inl (by omega))).up (by omega)⟩
              · try simp only [dz, dy] at herr5
                obtain ⟨rfl, hop⟩ : e5 = 0 ∧ openR b.last b.from_ b.sum = .ok t2 := by rcases hcase5 with ⟨q, _⟩ | q; (exfalso; simp at herr5; omega); exact q
                rw [hop] at hlw
                have ht2 := openR_ok h256 hop
                have hS3 := hS.move (g' := hh3.get) (fun z hz => by have := hO z hz; exact (hlow3 z (by omega)).trans (hlow z (by omega)))
                refine rK (kN (sg 7 J (qM U J (qF U J fa160_0 (qF U J fa49_2 (qL U J gA ((p38.1 _ _).trans J) ?_))))))
                refine q1_ U J a63 J (qX U rfl rfl a63 a63 (hS3.move (fun z hz => by have := hO z hz; rw [T.get_set, if_neg oA])) ((T.get_set _ _ _ _).trans (if_pos rfl)) rfl oA oA ?_)
                intro a4 cp4 h5 hS5 hO5 hF5
                have hmv : ∀ x, x < cc1 → x ∉ own a → h5.get x = hh3.get x := fun x hx hx2 => (hF5 x (by omega) hx2).trans (by rw [T.get_set, if_neg (by omega)])
                have hn2 : c + 2 ∉ own a := fun m => by have := hO _ m; omega
                have hn1 : c ∉ own a := fun m => by have := hO _ m; omega
                have hn9 : c2 + 28 ∉ own a := fun m => by have := hO _ m; omega
                have hb45 := (hmv c (by omega) hn1).trans hb43
                have hb55 := (hmv (c + 2) (by omega) hn2).trans hb53
                have hb95 := (hmv (c2 + 28) (by omega) hn9).trans hb93
                have hK5 := hK33.app2 hF5 (fun z hz => .inl (by have := hO z hz; omega)) (by omega) (by omega) (Nat.le_refl _)
                refine qA U J (nK (rg 10 J (qF U J fa114_0 (qL U J gA ((p9.1 _ _).trans J) ?_))))
                refine qM U J (qB U J J (addS t t2 oA) ?_)
                refine qM U J (qF U J fa160_1 (qL U J gA ((p3.1 _ _).trans J) ?_))
                refine qP U J J wA ?_
                refine qU U rfl i114 z114 rfl (by simp [Program.built, Instr.fill, Tryz.underlying114, Value.cells]; rfl) ?_
                refine qV U rfl rfl gA p114 rfl rfl (by simp [Value.cells]) ?_
                refine rN (kO (kN (rg 2 J (qP U J J wA ?_))))
                refine qM U J (nK ?_)
                refine ⟨_, ?_, i + 1, n + 48 + bits, t ++ t2, sums ++ [b.sum], a4, cp4, { u1 with block := none, last := b.last, origin := b.from_, gsum := b.sum, total := crcCom u1.total b.sum, due := 1 }, rfl, by omega, by omega, by omega, Ho U ⟨rfl, rfl, rfl, rfl, by rw [List.length_append]; rfl, rfl, rfl, trivial⟩, by rw [List.length_append]; simp; omega, ?_, by rw [List.length_append]; omega, rfl, q2, q3, q4, ?_, ?_, ?_, ?_, ?_, ?_, by dsimp only; omega, (hK5.set (.inl oA)).up oA⟩
                · omega
                · intro x hx; rcases List.mem_append.mp hx with q | q; (exact hs32 x q); (simp only [List.mem_singleton] at q; omega)
                · dsimp only; rw [List.foldl_append, ← q5]; rfl
                · intro rr q; refine hB rr (hlw rr ?_); dsimp only; rw [List.append_assoc, show k + n + 48 + bits = k + (n + 48 + bits) by omega]; exact q
                · dsimp only; rw [T.get_set, if_neg (by omega)]; exact hb45
                · dsimp only; rw [T.get_set, if_pos (by omega)]; rfl
                · rw [List.map_append, List.length_append]; exact hS5.move (fun z hz => by have := hO5 z hz; dsimp only; rw [T.get_set, if_neg (by omega)])
                · intro z hz; have := hO5 z hz; dsimp only; omega
  · try simp only [dz, dy] at hilt
    omega
end
section
variable {ov : OvT} (H : OvH ov)
include H
theorem rWith_cr {h : Heap} {c unit : Nat} {s : ByteArray} (hs : s.size ≤ 1000) (hu : 24 ≤ unit ∧ unit ≤ 100000) :
    CR Tryz.prog ov 14 [nv unit, .string s] ⟨h, c⟩ (fun v st => (∃ r, WithR unit (bitsL s.data.toList) r ∧ (match r with
      | .ok (p, _) => v = .agg #[.string (txt p.2), nv 0]
      | .error e => v = .agg #[nostr, nv e])) ∧ Keep [] h c st) := by
  obtain ⟨ALL, hA⟩ : ∃ ALL, ALL = bitsL s.data.toList := ⟨_, rfl⟩
  have hAl : ALL.length = 8 * s.size := by rw [hA, bitsL_length]; have h1 : s.data.toList.length = s.size := Array.length_toList; rw [h1]
  rw [← hA]
  have hsz : (zs ALL).size = ALL.length := by rw [txt_size, zl_len]
  refine e_2 Tryz.func14 rfl (H _ (by decide)) Tryz.ntmps14 (by decide) ?_
  intro env U
  refine sg 1 J (qZ i28 z28 J (nK (sg 3 J (qM U J (qC U J (CR.mono (rBits_cr H oA) ?_))))))
  rintro v ⟨hh1, cc1⟩ ⟨rfl, rfl, hk1⟩
  dsimp only at hk1
  rw [← hA]
  refine qA U J (nK (sg 1 J (qA U J (nK (sg 1 J (qA U J (nK (rS (sg 4 J (qM U J (qK U J Tryz.underlying9 (qP U J J wA ?_))))))))))))
  refine qM U J (nK (rB ?_))
  refine rL (fun m env' s' => ∃ (i n : Nat) (t : List Nat) (u : Un), m = s.size + 1 - i ∧ i ≤ s.size + 1 ∧ 8 * i ≤ n ∧ n ≤ ALL.length ∧ n % 8 = 0 ∧ Hd 69 [(0, nv unit), (4, ptr c), (5, .string (zs ALL)), (6, .string (txt t)), (7, nv n), (15, nv (s.size + 1)), (16, nv i)] env' ∧ t.length ≤ 225900000 * n ∧ u.due = 0 ∧ u.at_ = 0 ∧ u.unit = unit ∧ (u.ended = true → n < ALL.length) ∧ (∀ rr, RunW ALL u t n rr → WithR unit ALL rr) ∧ s'.heap.get c = some ⟨[nostr, nv 0], 28, 0⟩ ∧ c + 1 ≤ s'.ctr ∧ Keep [] h c s') (s.size + 1) ?_ ?_
  · refine ⟨0, 0, [], Un.new unit, rfl, Nat.zero_le _, Nat.zero_le _, Nat.zero_le _, rfl, Ho U ⟨rfl, rfl, rfl, rfl, rfl, rfl, rfl, trivial⟩, Nat.zero_le _, rfl, rfl, rfl, fun q => (by simp [Un.new] at q), fun rr q => q, ?_, by dsimp only; omega, ((Keep.refl (Nat.le_refl c)).set (.inl oA)).up oA⟩
    dsimp only; rw [T.get_set, if_pos (by omega)]; rfl
  rintro m _ ⟨h2, c2⟩ ⟨i, n, t, u, rfl, hi, hin, hnl, hn8, ⟨env, U, rfl⟩, htl, u1, u2, u3, u4, hRed, hb4, hc2, hK⟩
  dsimp only at hb4 hc2
  refine sg 1 J (qB U J J J (nK (rS ?_)))
  refine rC U rfl (fun hilt => ?_) (fun hilt => ?_)
  · try simp only [dz, dy] at hilt
    refine rK (kN (rS (rB (rS (sg 5 J (qM U J (qM U J (qT (s := zl ALL) n (zl ALL).length U rfl Tryz.underlying9 rfl rfl ⟨by rw [zl_len]; omega, Nat.le_refl _⟩ ?_))))))))
    rw [zl_rest]
    refine qC U J (CR.mono (rBegins22_cr H (M := ALL.drop n) (by rw [List.length_drop]; omega)) ?_)
    rintro v ⟨hh3, cc3⟩ ⟨rfl, rfl, hk3⟩
    dsimp only at hk3
    have hbg := beg_law (ALL := ALL) (k := n) (out := t) 4 0 u rfl (by omega) u1 u2 (fun _ q => by have := u4 q; rw [List.length_drop]; omega)
    simp only [Nat.mul_zero, Nat.add_zero] at hbg
    refine qA U J (nK (sg 2 J (qM U J (qB U J J J (nK ?_)))))
    refine rC U rfl (fun hbad => ?_) (fun hbad => ?_)
    · try simp only [dz, dy] at hbad
      refine sg 3 J (qM U J (qU U rfl i28 z28 rfl (by simp [Program.built, Instr.fill, Tryz.underlying28, Value.cells]; rfl) ?_))
      refine qV U rfl rfl gA p28 rfl rfl (by simp [Value.cells]) ?_
      refine nK (rR (kR (k_bloR (kR (kR (k_bloR (kR (f_c U J (.inl J) J  (T.get_set _ _ _ _ |>.trans (if_pos J)) ((p28.1 _ _).trans J) ?_))))))))
      have hb0 : begR (ALL.drop n) 4 0 ≠ 0 := by intro q; rw [q] at hbad; simp at hbad
      exact ⟨⟨.error _, hRed _ (hbg.2 hb0), rfl⟩, (hK.set (.inl (by omega))).up (by omega)⟩
    · try simp only [dz, dy] at hbad
      have hb0 : begR (ALL.drop n) 4 0 = 0 := by simp at hbad; omega
      obtain ⟨b1, b2, b3⟩ := begR_ok hb0
      rw [List.length_drop] at b1
      obtain ⟨lv, hlv⟩ : ∃ lv, lv = num (((ALL.drop n).drop 24).take 8) - 48 := ⟨_, rfl⟩
      refine rK (kN (sg 10 J (qM U J (qM U J (qP U J J wA ?_)))))
      refine qM U J (qP U J J wA ?_)
      refine qT (s := zl ALL) (n + 24) (n + 32) U rfl Tryz.underlying9 rfl rfl ⟨by omega, by rw [zl_len]; omega⟩ ?_
      rw [zl_sub, show n + 32 - (n + 24) = 8 by omega, ← List.drop_drop]
      refine qC U J (CR.mono (rNumber_cr H (L := ((ALL.drop n).drop 24).take 8) (by rw [List.length_take]; omega)) ?_)
      rintro v ⟨hh5, cc5⟩ ⟨rfl, rfl, hk5⟩
      dsimp only at hk5
      refine qH U J Tryz.underlying38 Tryz.underlying3 wA ?_
      refine q_sub U rfl rfl (m := (lv : Int)) (by rw [wrapI oA oA]; omega) ?_
      refine qA U J (nK (sg 10 J (qM U J (qM U J (qP U J J wA ?_)))))
      refine qT (s := zl ALL) (n + 32) (zl ALL).length U rfl Tryz.underlying9 rfl rfl ⟨by rw [zl_len]; omega, Nat.le_refl _⟩ ?_
      rw [zl_rest]
      have hm1 : lv * unit ≤ 9 * 100000 := Nat.mul_le_mul (by omega) hu.2
      have hm2 : 1 * 24 ≤ lv * unit := Nat.mul_le_mul (by omega) hu.1
      refine qM U J (qM U J (q_mul U rfl rfl (m := ((lv * unit : Nat) : Int)) (by rw [← Int.natCast_mul]; exact wrapI oA oA) ?_))
      refine qC U J (CR.mono (rOne_cr H (k := n + 32) (u := begun u (ALL.drop n)) (out := t) (room := lv * unit) oA oA oA rfl rfl rfl (by rw [hlv, ← u3]; rfl)) ?_)
      rintro v ⟨hh6, cc6⟩ ⟨t2, b2', e1, rfl, hcase, hK1⟩
      have hcc1 := hK1.1
      dsimp only at hcc1 hcase
      refine qZ i114 z114 J (qV U rfl rfl gA p114 rfl rfl (by simp [Value.cells]) ?_)
      refine ro_gen (fun H6 hH6 => ?_)
      have hx6 : ∀ x, x ≠ cc5 + 8 → H6.get x = hh6.get x := fun x hx => by rw [hH6]; simp only [T.get_set]; rw [if_neg (by omega), if_neg (by omega)]
      have hb10 : H6.get (cc5 + 8) = some ⟨[.string (txt t2), nv b2', nv e1], 114, 0⟩ := by rw [hH6, T.get_set, if_pos (by omega)]; rfl
      have hlow : ∀ x, x < c2 → H6.get x = h2.get x := fun x hx => (hx6 x (by omega)).trans (hK1.2 x (by omega) (by simp))
      have hb46 := (hlow c (by omega)).trans hb4
      have hK6 : Keep [] h c ⟨H6, cc6⟩ := ⟨by dsimp only; omega, fun x hx _ => (hlow x (by omega)).trans (hK.2 x hx (by simp))⟩
      refine nK (rS (sg 3 J (qF U J fa114_2 (qL U J gA ((p3.1 _ _).trans J) ?_))))
      refine qB U J J J (nK ?_)
      refine rC U rfl (fun herr => ?_) (fun herr => ?_)
      · try simp only [dz, dy] at herr
        refine sg 4 J (qF U J fa114_2 (qL U J gA ((p3.1 _ _).trans J) ?_))
        refine qU U rfl i28 z28 rfl (by simp [Program.built, Instr.fill, Tryz.underlying28, Value.cells]; rfl) ?_
        refine qV U rfl rfl gA p28 rfl rfl (by simp [Value.cells]) ?_
        refine nK (rR (kR (k_bloR (kR (kR (k_bloR (kR (f_c U J (.inl J) J  (T.get_set _ _ _ _ |>.trans (if_pos J)) ((p28.1 _ _).trans J) ?_))))))))
        have hd : e1 ≠ 0 ∧ RunW ALL (begun u (ALL.drop n)) t (n + 32) (.error e1) := by rcases hcase with q | ⟨q, _⟩; exact q; (subst q; simp at herr)
        exact ⟨⟨.error e1, hRed _ (hbg.1 _ hb0 hd.2), rfl⟩, (hK6.set (.inl (by omega))).up (by omega)⟩
      · try simp only [dz, dy] at herr
        obtain ⟨rfl, hn2, hn80, ht2, u', w1, w2, w3, w4, w5⟩ : e1 = 0 ∧ n + 32 + b2' ≤ ALL.length ∧ 80 ≤ b2' ∧ t2.length ≤ 225900000 * b2' ∧ ∃ u' : Un, u'.due = 0 ∧ u'.at_ = 0 ∧ u'.ended = true ∧ u'.unit = (begun u (ALL.drop n)).unit ∧ ∀ rr, RunW ALL u' (t ++ t2) (n + 32 + b2' + (ALL.length - (n + 32 + b2')) % 8) rr → RunW ALL (begun u (ALL.drop n)) t (n + 32) rr := by rcases hcase with ⟨q, _⟩ | q; (exfalso; simp at herr; omega); exact q
        have hat : n + 32 + b2' + (ALL.length - (n + 32 + b2')) % 8 = (n + 32 + b2' + 7) / 8 * 8 := by omega
        rw [hat] at w5
        refine rK (kN (sg 5 J (qM U J (qF U J fa114_0 (qL U J gA ((p9.1 _ _).trans J) ?_)))))
        refine qB U J J (addS t t2 oA) ?_
        refine qA U J (nK (sg 9 J (qM U J (qP U J J wA ?_))))
        refine qF U J fa114_1 (qL U J gA ((p3.1 _ _).trans J) ?_)
        refine qP U J J wA ?_
        refine qP U J J wA ?_
        refine q_quo U rfl rfl ⟨by omega, by omega⟩ wA ?_
        refine q_mul U J J wA ?_
        refine qA U J (nK (sg 4 J (qM U J (qM U J (qK U J Tryz.underlying9 ?_)))))
        rw [hsz]
        refine qB U J J J (nK ?_)
        refine rC U rfl (fun hend => ?_) (fun hend => ?_)
        · try simp only [dz, dy] at hend
          refine sg 3 J (qM U J (qU U rfl i28 z28 rfl (by simp [Program.built, Instr.fill, Tryz.underlying28, Value.cells]; rfl) ?_))
          refine qV U rfl rfl gA p28 rfl rfl (by simp [Value.cells]) ?_
          refine nK (rR (k_bloR (kR (kR (k_bloR (kR (f_c U J (.inl J) J  (T.get_set _ _ _ _ |>.trans (if_pos J)) ((p28.1 _ _).trans J) ?_)))))))
          have hfin : withFin (u', t ++ t2) (ALL.drop ((n + 32 + b2' + 7) / 8 * 8)) = true := by simp only [withFin, Un.mayEnd, w1, w2, w3, List.length_drop]; simp at hend ⊢; omega
          exact ⟨⟨.ok ((u', t ++ t2), _), hRed _ (hbg.1 _ hb0 (w5 _ (.stop hfin))), rfl⟩, (hK6.set (.inl (by omega))).up (by omega)⟩
        · try simp only [dz, dy] at hend
          refine rK (kO (kN (rg 2 J (qP U J J wA ?_))))
          refine qM U J (nK ?_)
          exact ⟨s.size + 1 - (i + 1), by omega, i + 1, (n + 32 + b2' + 7) / 8 * 8, t ++ t2, u', rfl, by omega, by omega, by omega, by omega, Ho U ⟨rfl, rfl, rfl, rfl, rfl, rfl, rfl, trivial⟩, by rw [List.length_append]; omega, w1, w2, by rw [w4, ← u3]; rfl, fun _ => by omega, fun rr q => hRed rr (hbg.1 rr hb0 (w5 rr q)), hb46, by dsimp only; omega, hK6.up (by omega)⟩
  · try simp only [dz, dy] at hilt
    omega
end
def packN : Nat → List Bool → List Nat
  | 0, _ => []
  | n + 1, l => num (l.take 8) :: packN n (l.drop 8)
theorem packN_snoc : ∀ (n : Nat) (l : List Bool), packN (n + 1) l = packN n l ++ [num ((l.drop (8 * n)).take 8)]
  | 0, l => by simp [packN]
  | n + 1, l => by
    rw [packN, packN_snoc n (l.drop 8), packN, List.cons_append, List.drop_drop, show 8 + 8 * n = 8 * (n + 1) by omega]
theorem packN_len : ∀ (n : Nat) (l : List Bool), (packN n l).length = n
  | 0, _ => rfl
  | n + 1, l => by simp [packN, packN_len n]
section
variable {ov : OvT} (H : OvH ov)
include H
theorem rBytes_cr {h : Heap} {c : Nat} {L : List Bool} (hL : L.length ≤ 1000000) :
    CR Tryz.prog ov 128 [.string (zs L)] ⟨h, c⟩ (fun v st => v = .string (txt (packN (L.length / 8) L)) ∧ Keep [] h c st) := by
  refine e_1 Tryz.func128 rfl (H _ (by decide)) Tryz.ntmps128 (by decide) ?_
  intro env U
  refine sg 1 J (qA U J (nK (sg 1 J (qA U J (nK (rS (rB ?_)))))))
  refine rL (fun m env' s' => ∃ j, m = L.length / 8 - j ∧ 8 * j ≤ L.length ∧ Hd 18 [(0, .string (zs (L.drop (8 * j)))), (3, .string (txt (packN j L)))] env' ∧ c ≤ s'.ctr ∧ Keep [] h c s') (L.length / 8) ?_ ?_
  · exact ⟨0, rfl, by omega, Ho U ⟨rfl, rfl, trivial⟩, by dsimp only; omega, (Keep.refl (Nat.le_refl c)).up (by omega)⟩
  rintro m _ ⟨h2, c2⟩ ⟨j, rfl, hj, ⟨env, U, rfl⟩, hc2, hK⟩
  dsimp only at hc2
  refine rS (sg 3 J ?_)
  have hld : (L.drop (8 * j)).length = L.length - 8 * j := List.length_drop
  refine qM U J (qK U J Tryz.underlying9 ?_)
  rw [txt_size, zl_len]
  refine qB U J J J (nK ?_)
  refine rC U rfl (fun h8 => ?_) (fun h8 => ?_)
  · try simp only [dz, dy] at h8
    have e8 := num_lt ((L.drop (8 * j)).take 8)
    rw [List.length_take, Nat.min_eq_left (by omega)] at e8
    obtain ⟨x, hx⟩ : ∃ x, x = num ((L.drop (8 * j)).take 8) := ⟨_, rfl⟩
    have hxn : (UInt8.ofNat x).toNat = x := by simp [UInt8.toNat_ofNat]; omega
    refine rK (kN (rB (sg 9 J (qM U J (qM U J (qT (s := zl (L.drop (8 * j))) 0 8 U rfl Tryz.underlying9 rfl rfl ⟨by omega, by rw [zl_len]; omega⟩ ?_))))))
    rw [zl_sub, List.drop_zero]
    refine qC U J (CR.mono (rNumber_cr H (L := (L.drop (8 * j)).take 8) (by rw [List.length_take]; omega)) ?_)
    rintro v ⟨hh1, cc1⟩ ⟨rfl, rfl, hk⟩
    try dsimp only at hk
    rw [← hx]
    refine qH U J Tryz.underlying38 Tryz.underlying5 (m := (x : Int)) (wrapU8 oA oA) ?_
    refine q1_ U J a102 J (qY U rfl Tryz.underlying102 Tryz.underlying9 Tryz.underlying5 (bs := [UInt8.ofNat x]) (.inr ⟨_, rfl, rfl, by simp only [List.map_cons, List.map_nil, hxn]; exact (T.get_set _ _ _ _).trans (if_pos rfl), by simp, by omega⟩) ?_)
    refine qB U rfl rfl (addS (packN j L) [x] (by rw [packN_len]; simp; omega)) ?_
    refine qA U J (nK (rg 3 J (qM U J (qT (s := zl (L.drop (8 * j))) 8 (zl (L.drop (8 * j))).length U rfl Tryz.underlying9 rfl rfl ⟨by rw [zl_len]; omega, Nat.le_refl _⟩ ?_))))
    rw [zl_rest, List.drop_drop]
    refine qA U J (rN (kO (kN ?_)))
    exact ⟨L.length / 8 - (j + 1), by omega, j + 1, rfl, by omega, Ho U ⟨rfl, by rw [packN_snoc, ← hx]; rfl, trivial⟩, by dsimp only; omega, (hK.set (.inl (by omega))).up (by omega)⟩
  · try simp only [dz, dy] at h8
    refine r_exit (kE (kE (kB (kN (sg 2 J (qM U J (qA U J (nK (rR (f_1 U J (.inl J) J ?_))))))))))
    have ej : j = L.length / 8 := by omega
    subst ej
    exact ⟨rfl, hK.up (by omega)⟩
end
end Go.Proofs.YtegjkhgaoabfcaaGreat
namespace Go.Proofs.YtegjkhgaoabfcaaGreat
open Go.RowKit
theorem cells5 : Tryz.prog.cellsOf 5 = 1 := by kernel_rfl
theorem size104 : Tryz.t104.size ≠ 0 := by rw [show Tryz.t104.size = 2 by kernel_rfl]; decide
theorem liesB : liesAt Tryz.prog Tryz.prog.depth 104 (2 / Tryz.prog.cellsOf 104) 0 104 1 = true := by kernel_rfl
set_option maxHeartbeats 1000000 in
set_option maxRecDepth 100000 in
theorem chk_used (b : Nat) (w : World) (h0 : w.cell? ⟨b, 0, none⟩ = some (.pointer (some ⟨b, 0, none⟩))) :
    Calls Tryz.prog 109 #[.pointer (some ⟨b, 0, none⟩)] w fun e w' => e = .returned (.tuple #[]) ∧ w' = w := by
  have hj : Tryz.prog.info? 104 = some Tryz.t104 := by kernel_rfl
  go_enter Tryz.func109, Tryz.ntmps109
  go_wp2
  rw [Lib.run_neq_ptr_same w _ Tryz.underlying101 hj]
  go_wp2
  go_end0
  exact ⟨rfl, rfl⟩
set_option maxHeartbeats 1000000 in
set_option maxRecDepth 100000 in
theorem chk_fresh (b : Nat) (w : World) (h0 : w.cell? ⟨b, 0, none⟩ = some (.pointer none)) (hsh : w.shape? b = some (104, 2)) (hfz : w.frozen? ⟨b, 0, none⟩ = false) :
    Calls Tryz.prog 109 #[.pointer (some ⟨b, 0, none⟩)] w fun e w' => e = .returned (.tuple #[]) ∧ w' = w.setCell ⟨b, 0, none⟩ (.pointer (some ⟨b, 0, none⟩)) := by
  have hj : Tryz.prog.info? 104 = some Tryz.t104 := by kernel_rfl
  go_enter Tryz.func109, Tryz.ntmps109
  go_wp2
  rw [Lib.run_to_unsafe w ⟨b, 0, none⟩ Tryz.underlying101 Tryz.underlying197 hj size104 hsh (Nat.zero_lt_succ 1)]
  simp only [Result.andThen]
  rw [Oper.upon_value]
  go_wp2
  rw [run_callFunc_extern Tryz.func143 (by kernel_rfl) (by kernel_rfl) (by kernel_rfl) (e := Extern.AbiNoEscape.same) (by kernel_rfl)]
  rw [Lib.run_noEscape]
  simp only [Result.andThen]
  rw [Oper.upon_value]
  go_wp2
  rw [Lib.run_from_unsafe w ⟨b, 0, none⟩ Tryz.underlying197 Tryz.underlying101 hj hsh liesB]
  simp only [Result.andThen]
  rw [Oper.upon_value]
  go_wp2
  go_end0
  exact ⟨rfl, rfl⟩
theorem liesAt_off {P : Program} {e : TypeId} (hc : P.cellsOf e = 1) (count n off : Nat) (hn : off + n ≤ count) : liesAt P P.depth e count off e n = true := by
  have hd : P.depth = (2 * (P.types.size + Made.depth) + 1) + 1 := rfl
  rw [hd]
  simp only [liesAt, Bool.or_eq_true]
  left
  rw [hd]
  simp [rowAt, hc, hn, sameLayout, Nat.mod_one]
theorem loadB {P : Program} (w : World) : ∀ (l : List Value) (bs : List UInt8) (a : Addr) (acc : ByteArray), AE.bytesOf l = some bs → (∀ j x, l[j]? = some x → w.cell? (a.add j) = some x) →
    (loadBytes a acc l.length).run P w = .ok ⟨acc.data ++ bs.toArray⟩ w
  | [], bs, a, acc, hb, _ => by simp only [AE.bytesOf, Option.some.injEq] at hb; subst hb; simp [loadBytes]
  | v :: l, bs, a, acc, hb, h => by
    cases v with
    | int k n =>
      cases k with
      | u8 =>
        simp only [AE.bytesOf] at hb
        cases hr : AE.bytesOf l with
        | none => rw [hr] at hb; cases hb
        | some bs' =>
          rw [hr] at hb; simp only [Option.map_some, Option.some.injEq] at hb; subst hb
          have h0 : w.cell? a = some (.int .u8 n) := by
            have := h 0 _ rfl
            simpa [Addr.add] using this
          have ih := loadB (P := P) w l bs' (a.add 1) (acc.push n.toNat.toUInt8) hr (fun j y hy => by
            have := h (j + 1) y (by simpa using hy)
            have e : (a.add 1).add j = a.add (j + 1) := by
              unfold Addr.add
              by_cases hj : j = 0
              · subst hj; simp
              · simp [hj]; omega
            rw [e]; exact this)
          simp only [List.length_cons, loadBytes, Sem.run_bind, run_load, h0, Result.andThen]
          rw [ih]
          congr 1
          apply ByteArray.ext
          simp [ByteArray.push]
      | _ => simp [AE.bytesOf] at hb
    | _ => simp [AE.bytesOf] at hb
theorem str_run {P : Program} (w : World) (pt it ty e : TypeId) (hp : P.underlying pt = some (.pointer e)) (hc : P.cellsOf e = 1) (a : Addr) (cells : Nat) (hsh : w.shape? a.block = some (e, cells)) (l : List Value) (bs : List UInt8) (hb : AE.bytesOf l = some bs) (h0 : l ≠ []) (hn : a.off + l.length ≤ cells) (h63 : l.length ≤ 9223372036854775807)
    (hcell : ∀ j x, l[j]? = some x → w.cell? (a.add j) = some x) :
    (Builtin.unsafeString_ #[pt, it] ty #[.pointer (some a), .int .i64 l.length]).run P w = .ok (.string ⟨bs.toArray⟩) (w.freeze a l.length) := by
  have hl : l.length ≠ 0 := by simpa using h0
  have hlb := loadB (P := P) w l bs a .empty hb hcell
  have hlies := liesAt_off (P := P) hc (cells / P.cellsOf e) l.length a.off (by rw [hc]; simpa using hn)
  have h63' : ¬ (9223372036854775807 : Int) < (l.length : Int) := by omega
  have hdef : Builtin.unsafeString_ #[pt, it] ty #[.pointer (some a), .int .i64 l.length] =
      (do
        let n ← asInt (.int .i64 l.length)
        if n < 0 then runtimePanic (.error "unsafe.String: len out of range")
        if n > IntKind.i64.max then unsupported (.unsafePointer "String: a length above the largest int")
        if n = 0 then pure (.string .empty)
        else if ← variablesAt a (← elemOf pt) n.toNat then do
          let s ← loadBytes a .empty n.toNat
          freeze a n.toNat
          pure (.string s)
        else unsupported (.unsafePointer "String: not so many bytes at ptr")) := rfl
  rw [hdef]
  have hmax : IntKind.i64.max = 9223372036854775807 := rfl
  have hneg : ¬ (l.length : Int) < 0 := by omega
  simp [asInt, asIntOf, hmax, h63', hneg, hl, variablesAt, hsh, elemOf, run_underlying hp, hlies, hlb]
set_option maxHeartbeats 1000000 in
set_option maxRecDepth 100000 in
theorem str_nil (b : Nat) (w : World) (h1 : w.cell? ⟨b, 1, none⟩ = some (.slice none 0 0)) :
    Calls Tryz.prog 63 #[.pointer (some ⟨b, 0, none⟩)] w fun e w' => e = .returned (.string ⟨#[]⟩) ∧ w' = w.drew := by
  have c1 : w.drew.cell? ⟨b, 1, none⟩ = some (.slice none 0 0) := h1
  have hUS : ∀ (W : World) (q : Option Addr), (Builtin.unsafeString_ #[156, 3] 9 #[.pointer q, .int .i64 0]).run Tryz.prog W = .ok (.string .empty) W := fun W q => Lib.run_unsafeString_none W _ _ _ q
  have hSD : (Builtin.unsafeSliceData_ #[102] 156 #[.slice none 0 0]).run Tryz.prog w.drew = .ok (.pointer none) w.drew := rfl
  have mixed : Tryz.prog.follows .mixedOrders = true := by kernel_rfl
  go_enter Tryz.func63, Tryz.ntmps63
  go_wp2
  go_region_o
  all_goals (go_wp2; go_ret; exact ⟨rfl, rfl⟩)
set_option maxHeartbeats 1000000 in
set_option maxRecDepth 100000 in
theorem str_row (b : Nat) (a : Addr) (C N : Nat) (l : List Value) (bs : List UInt8) (w : World) (h1 : w.cell? ⟨b, 1, none⟩ = some (.slice (some a) l.length C)) (hC : C ≠ 0) (hb : AE.bytesOf l = some bs) (h0 : l ≠ []) (hsh : w.shape? a.block = some (5, N)) (hn : a.off + l.length ≤ N) (h63 : l.length ≤ 9223372036854775807)
    (hcell : ∀ j x, l[j]? = some x → w.cell? (a.add j) = some x) :
    Calls Tryz.prog 63 #[.pointer (some ⟨b, 0, none⟩)] w fun e w' => e = .returned (.string ⟨bs.toArray⟩) ∧ w' = w.drew.freeze a l.length := by
  have c1 : w.drew.cell? ⟨b, 1, none⟩ = some (.slice (some a) l.length C) := h1
  have hSD : (Builtin.unsafeSliceData_ #[102] 156 #[.slice (some a) l.length C]).run Tryz.prog w.drew = .ok (.pointer (some a)) w.drew := Lib.run_unsafeSliceData_row _ _ _ _ _ _ hC
  have hUS : (Builtin.unsafeString_ #[156, 3] 9 #[.pointer (some a), .int .i64 l.length]).run Tryz.prog w.drew = .ok (.string ⟨bs.toArray⟩) (w.drew.freeze a l.length) :=
    str_run w.drew 156 3 9 5 Tryz.underlying156 cells5 a N hsh l bs hb h0 hn h63 hcell
  have mixed : Tryz.prog.follows .mixedOrders = true := by kernel_rfl
  go_enter Tryz.func63, Tryz.ntmps63
  go_wp2
  go_region_o
  all_goals (go_wp2; go_ret; exact ⟨rfl, rfl⟩)
end Go.Proofs.YtegjkhgaoabfcaaGreat
namespace Go.Proofs.YtegjkhgaoabfcaaGreat
open Go.AE Go.RowKit
theorem frz (w : World) (a : Addr) (n : Nat) : (w.freeze a n).os = w.os ∧ (w.freeze a n).tape = w.tape ∧ (w.freeze a n).output = w.output ∧ (w.freeze a n).heap.size = w.heap.size ∧ ∀ B, B ≠ a.block → (w.freeze a n).heap[B]? = w.heap[B]? := by
  unfold World.freeze
  split
  · exact ⟨rfl, rfl, rfl, rfl, fun _ _ => rfl⟩
  · exact ⟨rfl, rfl, rfl, by simp, fun B hB => by simp only [Array.getElem?_modify]; rw [if_neg (fun e => hB e.symm)]⟩
theorem var_at {ρ : Ren} {g : Nat → Option Blk} {w : World} (hR : R ρ g w) {b : Nat} {blk : Blk} (hb : g b = some blk) (h0 : blk.es = 0) {v : Value} (hv : VR ρ (.pointer (some ⟨b, 0, none⟩)) v) :
    ∃ r, ρ b = some r ∧ BR ρ w r blk ∧ r.δ = 0 ∧ r.N = blk.cells.length ∧ v = .pointer (some ⟨r.B, 0, none⟩) := by
  obtain ⟨r, h1, h2⟩ := hR.live b blk hb
  obtain ⟨d, n⟩ := h2.1.2 h0
  refine ⟨r, h1, h2, d, n, ?_⟩
  cases hv with
  | ptr h =>
    obtain ⟨r', e1, e2, _⟩ := h
    dsimp only at e1 e2
    rw [h1] at e1; cases e1
    rw [e2, d]
theorem bytesOf_get : ∀ {cs : List Value} {bs : List UInt8} {j : Nat} {x : Value}, bytesOf cs = some bs → cs[j]? = some x → ∃ m, x = .int .u8 m
  | [], _, _, _, _, h => by simp at h
  | v :: cs, bs, j, x, hb, h => by
    cases v with
    | int k m =>
      cases k with
      | u8 =>
        cases j with
        | zero => simp at h; exact ⟨m, h.symm⟩
        | succ j =>
          simp only [bytesOf] at hb
          cases hr : bytesOf cs with
          | none => rw [hr] at hb; cases hb
          | some bs' => exact bytesOf_get hr (by simpa using h)
      | _ => simp [bytesOf] at hb
    | _ => simp [bytesOf] at hb
theorem args1 {ρ : Ren} {x : Value} {a : Array Value} (h : LR ρ [x] a.toList) : ∃ y, a = #[y] ∧ VR ρ x y := by
  obtain ⟨y, ys, e, h1, h2⟩ := h.cons_inv
  have := h2.nil_inv
  subst this
  exact ⟨y, by apply Array.ext'; simpa using e, h1⟩
theorem str_ok {args : List Value} {s s' : St} {v : Value} (h : strB args s = some (v, s')) : s.ctr ≤ s'.ctr ∧ ∀ ρ w (args' : Array Value), R ρ s.heap.get w → Fr ρ s → LR ρ args args'.toList →
      Calls Tryz.prog 63 args' w fun e w' => ∃ ρ' v', e = .returned v' ∧ VR ρ' v v' ∧ Step ρ s.heap.get w ρ' s'.heap.get w' (Nw s s') := by
  unfold strB at h
  split at h
  · rename_i b
    split at h
    · rename_i p e hb
      cases h
      refine ⟨Nat.le_refl _, fun ρ w args' hR hF hA => ?_⟩
      obtain ⟨y, rfl, hy⟩ := args1 hA
      obtain ⟨r, r1, r2, r3, r4, rfl⟩ := var_at hR hb rfl hy
      obtain ⟨v', c1, c2⟩ := r2.cell (i := 1) (by simp)
      rw [r3] at c1
      have hv : v' = .slice none 0 0 := by simp only [List.getD] at c2; cases c2; rfl
      subst hv
      refine (str_nil r.B w (by simpa using c1)).mono ?_
      rintro e w' ⟨rfl, rfl⟩
      exact ⟨ρ, _, rfl, .str _, Ren.le_refl _, ⟨rfl, rfl, rfl, Nat.le_refl _⟩, ⟨hR.live, hR.inj, hR.lt⟩, fun _ _ _ => rfl, fun _ q => .inl q, fun _ _ => rfl, fun x blk q => .inr ⟨blk, q⟩⟩
    · rename_i p a n cp e hb
      split at h
      · rename_i cs e2 ha
        split at h
        · rename_i hc
          obtain ⟨rfl, hn, hn0, hn9⟩ := hc
          cases hby : bytesOf cs with
          | none => rw [hby] at h; cases h
          | some bs =>
            rw [hby] at h; simp only [Option.map_some, Option.some.injEq, Prod.mk.injEq] at h
            obtain ⟨rfl, rfl⟩ := h
            refine ⟨Nat.le_refl _, fun ρ w args' hR hF hA => ?_⟩
            obtain ⟨y, rfl, hy⟩ := args1 hA
            obtain ⟨r, r1, r2, r3, r4, rfl⟩ := var_at hR hb rfl hy
            obtain ⟨v', c1, c2⟩ := r2.cell (i := 1) (by simp)
            rw [r3] at c1
            obtain ⟨q, q1, q2⟩ := hR.live a _ ha
            obtain ⟨C, hC, hv⟩ : ∃ C, C ≠ 0 ∧ v' = .slice (some ⟨q.B, q.δ, none⟩) n C := by
              simp only [List.getD] at c2
              cases c2 with
              | slice h1 h2 h3 =>
                rename_i A C
                have hC : C ≠ 0 := by omega
                obtain ⟨q', e1, e3, _⟩ := h3 hC
                dsimp only at e1 e3
                rw [q1] at e1; cases e1
                exact ⟨C, hC, by rw [e3]; rfl⟩
            subst hv
            obtain ⟨⟨es1, _⟩, cells, fz, k1, k2, k3, k4, k5⟩ := id q2
            dsimp only at k1 k4 k5
            subst hn
            have hcell : ∀ j x, cs[j]? = some x → w.cell? ((⟨q.B, q.δ, none⟩ : Addr).add j) = some x := by
              intro j x hx
              have hj := (List.getElem?_eq_some_iff.mp hx).1
              obtain ⟨v2, d1, d2⟩ := q2.cell (i := j) (by dsimp only; exact hj)
              rw [addr_add, d1]
              have hxx : (Blk.mk cs 5 1).cells.getD j undef = x := by simp only [List.getD, hx, Option.getD_some]
              rw [hxx] at d2
              have hi := bytesOf_get hby hx
              obtain ⟨m, rfl⟩ := hi
              cases d2; rfl
            refine (str_row r.B ⟨q.B, q.δ, none⟩ C q.N cs bs w (by simpa using c1) hC hby (by intro e; subst e; exact hn0 rfl) (by simp [World.shape?, k1, k2]) k4 hn9 hcell).mono ?_
            · rintro e w' ⟨rfl, rfl⟩
              obtain ⟨f1, f2, f3, f4, f5⟩ := frz w.drew ⟨q.B, q.δ, none⟩ cs.length
              have dom : ∀ x y, (s.heap.del a).get x = some y → x ≠ a ∧ s.heap.get x = some y := by
                intro x y hx
                rw [T.get_del] at hx
                by_cases e : x = a
                · rw [if_pos e] at hx; cases hx
                · rw [if_neg e] at hx; exact ⟨e, hx⟩
              refine ⟨ρ, _, rfl, .str _, Ren.le_refl _, ⟨f1, f2, f3, Nat.le_of_eq f4.symm⟩, ⟨fun x y hx => ?_, fun x1 x2 y1 y2 z1 z2 g1 g2 => hR.inj _ _ _ _ _ _ (dom _ _ g1).2 (dom _ _ g2).2, fun x z hz => by rw [f4]; exact hR.lt x z hz⟩, fun B hB hf => f5 B (fun e => hf ⟨a, _, q, ha, q1, e.symm⟩), fun B hf => .inl ?_, fun _ _ => rfl, fun x y hx => .inr ⟨y, (dom x y hx).2⟩⟩
              · obtain ⟨d1, d2⟩ := dom x y hx
                obtain ⟨z, z1, z2⟩ := hR.live x y d2
                exact ⟨z, z1, z2.mono (Ren.le_refl _) (f5 z.B (fun e => d1 (hR.inj _ _ _ _ _ _ d2 ha z1 q1 e)))⟩
              · obtain ⟨x, y, z, h1, h2, h3⟩ := hf
                exact ⟨x, y, z, (dom x y h1).2, h2, h3⟩
        · cases h
      · cases h
    · cases h
  · cases h
theorem chk_ok {args : List Value} {s s' : St} {v : Value} (h : chkB args s = some (v, s')) : s.ctr ≤ s'.ctr ∧ ∀ ρ w (args' : Array Value), R ρ s.heap.get w → Fr ρ s → LR ρ args args'.toList →
      Calls Tryz.prog 109 args' w fun e w' => ∃ ρ' v', e = .returned v' ∧ VR ρ' v v' ∧ Step ρ s.heap.get w ρ' s'.heap.get w' (Nw s s') := by
  unfold chkB at h
  split at h
  · rename_i b
    split at h
    · rename_i sl e hb
      split at h
      · rename_i he
        subst he
        cases h
        refine ⟨Nat.le_refl _, fun ρ w args' hR hF hA => ?_⟩
        obtain ⟨y, rfl, hy⟩ := args1 hA
        obtain ⟨r, r1, r2, r3, r4, rfl⟩ := var_at hR hb rfl hy
        obtain ⟨v', c1, c2⟩ := r2.cell (i := 0) (by simp)
        rw [r3] at c1
        have hv : v' = .pointer none := by simp only [List.getD] at c2; cases c2; rfl
        subst hv
        obtain ⟨es1, cells, fz, k1, k2, k3, k4, k5⟩ := id r2
        dsimp only at k1 k4 k5 r4
        have hsz : cells.size = 2 := by rw [k2, r4]; rfl
        refine (chk_fresh r.B w (by simpa using c1) (by simp [World.shape?, k1, hsz]) (r2.frozen (i := 0) (by omega))).mono ?_
        rintro e w' ⟨rfl, rfl⟩
        have hgw : (s.heap.set b ⟨[.pointer (some ⟨b, 0, none⟩), sl], 104, 0⟩).get = fun x => if x = b then some ⟨[.pointer (some ⟨b, 0, none⟩), sl], 104, 0⟩ else s.heap.get x := funext fun x => T.get_set _ _ _ _
        refine ⟨ρ, _, rfl, .tuple rfl (fun i => by simpa using VR.unit), ?_⟩
        dsimp only
        rw [hgw]
        refine Step.write (blk' := ⟨[.pointer (some ⟨b, 0, none⟩), sl], 104, 0⟩) hR hb r1 ⟨⟨es1.1, fun _ => ⟨r3, r4⟩⟩, cells.setIfInBounds 0 (.pointer (some ⟨r.B, 0, none⟩)), fz, ?_, by simpa using k2, k3, k4, ?_⟩ (by simp [World.setCell]) (fun x hx => Below.heap_setCell w ⟨r.B, 0, none⟩ _ x hx) rfl rfl rfl _
        · simp [World.setCell, Array.getElem?_modify, k1]
        · intro i hi
          dsimp only at hi ⊢
          rw [r3, Nat.zero_add]
          simp only [Array.getD_eq_getD_getElem?, Array.getElem?_setIfInBounds]
          match i, hi with
          | 0, _ => simp [hsz]; exact .ptr ⟨r, r1, by simp [r3], rfl⟩
          | 1, _ => have := k5 1 (by simp); rw [r3] at this; simpa [Array.getD_eq_getD_getElem?] using this
      · cases h
    · rename_i b2 sl e hb
      split at h
      · rename_i he
        subst he
        cases h
        refine ⟨Nat.le_refl _, fun ρ w args' hR hF hA => ?_⟩
        obtain ⟨y, rfl, hy⟩ := args1 hA
        obtain ⟨r, r1, r2, r3, r4, rfl⟩ := var_at hR hb rfl hy
        obtain ⟨v', c1, c2⟩ := r2.cell (i := 0) (by simp)
        rw [r3] at c1
        have hv : v' = .pointer (some ⟨r.B, 0, none⟩) := by
          simp only [List.getD] at c2
          obtain ⟨r', h1, _, _, _, h5⟩ := var_at hR hb rfl c2
          rw [r1] at h1; cases h1; exact h5
        subst hv
        refine (chk_used r.B w (by simpa using c1)).mono ?_
        rintro e w' ⟨rfl, rfl⟩
        exact ⟨ρ, _, rfl, .tuple rfl (fun i => by simpa using VR.unit), Step.refl hR _⟩
      · cases h
    · cases h
  · cases h
def theOv (f : FuncId) : Option (List Value → St → Option (Value × St)) := if f = 63 then some strB else if f = 109 then some chkB else none
theorem theOv_ok : OvOK Tryz.prog theOv := by
  intro f g hfg args s v s' h
  unfold theOv at hfg
  split at hfg
  · rename_i e; subst e; cases hfg; exact str_ok h
  · split at hfg
    · rename_i e; subst e; cases hfg; exact chk_ok h
    · cases hfg
theorem theOv_b : OvB theOv := ⟨fun k hk => by
  simp only [List.mem_cons, List.not_mem_nil, or_false, not_or] at hk
  unfold theOv; rw [if_neg hk.2.1, if_neg hk.2.2.1], rfl, rfl, rfl⟩
end Go.Proofs.YtegjkhgaoabfcaaGreat
namespace Go.Proofs.YtegjkhgaoabfcaaGreat
open Go.AE Go.RowKit
structure KE where
  f : FuncId
  pre : Option (TypeId × List Value)
  rest : List Value
  post : Option (TypeId × List Value)
  res : Value
def KE.run (e : KE) (args : List Value) (s : St) : Option (Value × St) :=
  match e.pre with
  | none => match sameCells args e.rest with
    | true => some (e.res, s)
    | false => none
  | some (t, cs) => match args with
    | .slice (some ⟨b, 0, none⟩) n 1 :: r => match s.heap.get b with
      | some ⟨cs2, t2, 1⟩ => match Nat.beq t2 t && sameCells cs2 cs && Nat.beq n cs.length && sameCells r e.rest with
        | true => match e.post with
          | none => some (e.res, s)
          | some (t3, cs3) => some (.slice (some ⟨s.ctr, 0, none⟩) cs3.length 1, ⟨s.heap.set s.ctr ⟨cs3, t3, 1⟩, s.ctr + 1⟩)
        | false => none
      | _ => none
    | _ => none
abbrev Known := List KE
def knows (tab : Known) (f : FuncId) : Option (List Value → St → Option (Value × St)) :=
  match tab.any (fun e => Nat.beq e.f f) with
  | true => some (fun args s => tab.findSome? fun e => match Nat.beq e.f f with
    | true => e.run args s
    | false => none)
  | false => theOv f
theorem same_plain {x y : Value} (h : sameValue x y = true) : x = y := by
  unfold sameValue at h
  split at h
  · simp only [beq_iff_eq] at h; rw [h]
  · simp only [Bool.and_eq_true, decide_eq_true_eq, beq_iff_eq] at h; rw [h.1, h.2]
  · simp only [beq_iff_eq] at h
    congr 1
    apply ByteArray.ext; apply Array.ext'; exact h
  · simp only [decide_eq_true_eq] at h; rw [h]
  · simp only [Bool.and_eq_true, decide_eq_true_eq, beq_iff_eq] at h; rw [h.1.1, h.1.2, h.2]
  · rfl
  · rfl
  · cases h
theorem same_list : ∀ {xs ys : List Value}, sameCells xs ys = true → xs = ys
  | [], [], _ => rfl
  | x :: xs, y :: ys, h => by
    simp only [sameCells, Bool.and_eq_true] at h
    rw [same_plain h.1, same_list h.2]
  | [], _ :: _, h => by simp [sameCells] at h
  | _ :: _, [], h => by simp [sameCells] at h
theorem same_v {x y : Value} (h : sameV x y = true) : x = y := by
  unfold sameV at h
  split at h
  · exact congrArg Value.agg (Array.ext' (same_list h))
  · exact same_plain h
theorem vr_plain {ρ : Ren} {x y : Value} (hx : AE.plainCell x = true) (h : VR ρ x y) : y = x := by
  cases h with
  | bool b => rfl
  | int k n => rfl
  | str s => rfl
  | pnil => rfl
  | ptr h => simp [AE.plainCell] at hx
  | snil => rfl
  | slice h1 h2 h3 => simp [AE.plainCell] at hx
  | func fn hf hc h1 h2 =>
    cases fn <;> simp [AE.plainCell] at hx
    obtain ⟨rfl, rfl⟩ := hx
    have e1 := Array.size_eq_zero_iff.1 (hf.symm.trans rfl)
    have e2 := Array.size_eq_zero_iff.1 (hc.symm.trans rfl)
    rw [e1, e2]
  | nilFunc => rfl
  | iface t h => simp [AE.plainCell] at hx
  | nilIface => rfl
  | agg hs h => simp [AE.plainCell] at hx
  | unit => rfl
  | tuple hs h => simp [AE.plainCell] at hx
theorem lr_plain {ρ : Ren} : ∀ {xs ys : List Value}, xs.all AE.plainCell = true → LR ρ xs ys → ys = xs
  | [], ys, _, h => h.nil_inv
  | x :: xs, ys, hx, h => by
    simp only [List.all_cons, Bool.and_eq_true] at hx
    obtain ⟨y, ys', rfl, h1, h2⟩ := h.cons_inv
    rw [vr_plain hx.1 h1, lr_plain hx.2 h2]
def KnownOk (e : KE) : Prop := ∀ args s v s', e.run args s = some (v, s') → s.ctr ≤ s'.ctr ∧ ∀ ρ w (args' : Array Value), R ρ s.heap.get w → Fr ρ s → LR ρ args args'.toList →
      Calls Tryz.prog e.f args' w fun x w' => ∃ ρ' v', x = .returned v' ∧ VR ρ' v v' ∧ Step ρ s.heap.get w ρ' s'.heap.get w' (Nw s s')
theorem knows_ok {tab : Known} (h : ∀ e ∈ tab, KnownOk e) : OvOK Tryz.prog (knows tab) := by
  intro f g hfg args s v s' hg
  unfold knows at hfg
  split at hfg
  · cases hfg
    obtain ⟨e, he, hr⟩ := List.exists_of_findSome?_eq_some hg
    cases hq : Nat.beq e.f f with
    | false => rw [hq] at hr; cases hr
    | true =>
      rw [hq] at hr
      have hf : e.f = f := Nat.eq_of_beq_eq_true hq
      have := h e he args s v s' hr
      rw [hf] at this; exact this
  · exact theOv_ok f g hfg args s v s' hg
theorem known_nil : ∀ e ∈ ([] : Known), KnownOk e := fun e he => by cases he
theorem known_cons {a : KE} {l : Known} (h : KnownOk a) (k : ∀ e ∈ l, KnownOk e) : ∀ e ∈ a :: l, KnownOk e := fun e he => by
  rcases List.mem_cons.mp he with q | q
  · rw [q]; exact h
  · exact k e q
theorem knows0_b : OvB (knows []) := ⟨fun k hk => theOv_b.h k hk, rfl, rfl, rfl⟩
theorem below_step {ρ : Ren} {g : Nat → Option Blk} {w w' : World} {N : Nat → Prop} (hR : R ρ g w) (h : Below w.heap.size w w') : Step ρ g w ρ g w' N := by
  have hs := h.size
  have hsame : ∀ B, B < w.heap.size → w'.heap[B]? = w.heap[B]? := fun B hB => h.block B hB
  refine ⟨Ren.le_refl _, ⟨h.os, h.tape, h.output, hs⟩, ⟨fun x y hx => ?_, hR.inj, fun x r hx => Nat.lt_of_lt_of_le (hR.lt x r hx) hs⟩, fun B hB _ => hsame B hB, fun B q => .inl q, fun _ _ => rfl, fun x y hx => .inr ⟨y, hx⟩⟩
  obtain ⟨r, h1, h2⟩ := hR.live x y hx
  exact ⟨r, h1, h2.mono (Ren.le_refl _) (hsame _ (hR.lt x r h1))⟩
theorem known_cr {tab : Known} (h : ∀ e ∈ tab, KnownOk e) {f : FuncId} {args : List Value} {res : Value} (ha : args.all AE.plainCell = true) (hp : plain res = true) (hc : CR Tryz.prog (knows tab) f args ⟨.leaf, 0⟩ fun v _ => v = res) : KnownOk ⟨f, none, args, none, res⟩ := by
  intro args1 s v s' hr
  simp only [KE.run] at hr
  split at hr
  · rename_i hs
    cases hr
    have e1 := same_list hs
    subst e1
    refine ⟨Nat.le_refl _, fun ρ w args' hR hF hA => ?_⟩
    have e2 : args' = args1.toArray := by apply Array.ext'; simpa using lr_plain ha hA
    subst e2
    refine (plain_calls mixed hname (knows_ok h) ha (hc.mono fun v st q => ⟨q, by rw [q]; exact hp⟩) w).mono ?_
    rintro x w' ⟨⟨v, rfl, rfl⟩, hb⟩
    exact ⟨ρ, _, rfl, VR.plain hp, below_step hR hb⟩
  · cases hr
def evalsTo (P : Program) (tab : Known) (n : Nat) (e : KE) : Bool := match evCall P (knows tab) n e.f e.rest ⟨.leaf, 0⟩ with
  | some (v, _) => e.pre.isNone && e.post.isNone && e.rest.all AE.plainCell && plain e.res && sameV v e.res
  | none => false
theorem known_of {tab : Known} (h : ∀ e ∈ tab, KnownOk e) {n : Nat} {e : KE} (he : evalsTo Tryz.prog tab n e = true) : KnownOk e := by
  unfold evalsTo at he
  cases hv : evCall Tryz.prog (knows tab) n e.f e.rest ⟨.leaf, 0⟩ with
  | none => rw [hv] at he; cases he
  | some y =>
    obtain ⟨v, s⟩ := y
    rw [hv] at he
    simp only [Bool.and_eq_true] at he
    obtain ⟨⟨⟨⟨h0, h1⟩, h2⟩, h3⟩, h4⟩ := he
    obtain ⟨f, pre, rest, post, res⟩ := e
    cases pre with
    | some p => cases h0
    | none => cases post with
      | some p => cases h1
      | none => exact known_cr h h2 h3 ⟨n, v, s, hv, same_v h4⟩
theorem br_plain {ρ ρ' : Ren} {w : World} {r : RB} {cs : List Value} {t z : Nat} (h : BR ρ w r ⟨cs, t, z⟩) (hp : cs.all AE.plainCell = true) : BR ρ' w r ⟨cs, t, z⟩ := by
  obtain ⟨h1, c, fz, k1, k2, k3, k4, k5⟩ := h
  refine ⟨h1, c, fz, k1, k2, k3, k4, fun i hi => ?_⟩
  have hx : AE.plainCell (cs.getD i undef) = true := by
    dsimp only at hi
    rw [List.getD_eq_getElem?_getD, List.getElem?_eq_getElem hi]
    exact List.all_eq_true.1 hp _ (List.getElem_mem hi)
  have := k5 i hi
  dsimp only at this ⊢
  rw [vr_plain hx this]
  exact VR.plainCell hx
def evalsH (P : Program) (tab : Known) (n : Nat) (e : KE) : Bool := match e.pre with
  | none => false
  | some (t, cs) => match evCall P (knows tab) n e.f (.slice (some ⟨0, 0, none⟩) cs.length 1 :: e.rest) ⟨(T.leaf : Heap).set 0 ⟨cs, t, 1⟩, 1⟩ with
    | none => false
    | some (v, s) => cs.all AE.plainCell && e.rest.all AE.plainCell && (match s.heap.get 0 with
      | some ⟨cs2, t2, 1⟩ => Nat.beq t2 t && sameCells cs2 cs
      | _ => false) && (match e.post with
      | none => plain e.res && sameV v e.res
      | some (t3, cs3) => cs3.all AE.plainCell && (match v with
        | .slice (some ⟨k, 0, none⟩) n3 1 => Nat.ble 1 k && Nat.beq n3 cs3.length && (match s.heap.get k with
          | some ⟨c4, t4, 1⟩ => Nat.beq t4 t3 && sameCells c4 cs3
          | _ => false)
        | _ => false))
theorem known_h {tab : Known} (h : ∀ e ∈ tab, KnownOk e) {n : Nat} {e : KE} (he : evalsH Tryz.prog tab n e = true) : KnownOk e := by
  obtain ⟨f, pre, rest, post, res⟩ := e
  cases pre with
  | none => cases he
  | some p =>
    obtain ⟨t, cs⟩ := p
    simp only [evalsH] at he
    cases hv : evCall Tryz.prog (knows tab) n f (.slice (some ⟨0, 0, none⟩) cs.length 1 :: rest) ⟨(T.leaf : Heap).set 0 ⟨cs, t, 1⟩, 1⟩ with
    | none => rw [hv] at he; cases he
    | some y =>
      obtain ⟨v0, s0⟩ := y
      rw [hv] at he
      simp only [Bool.and_eq_true] at he
      obtain ⟨⟨⟨h1, h2⟩, h3⟩, h4⟩ := he
      have h30 : s0.heap.get 0 = some ⟨cs, t, 1⟩ := by
        split at h3
        · rename_i cs2 t2 hg
          simp only [Bool.and_eq_true] at h3
          rw [hg, same_list h3.2, Nat.eq_of_beq_eq_true h3.1]
        · cases h3
      intro args s v s' hr
      simp only [KE.run] at hr
      split at hr
      · rename_i b n' r
        split at hr
        · rename_i cs2 t2 hb
          split at hr
          · rename_i hm
            simp only [Bool.and_eq_true] at hm
            obtain ⟨⟨⟨m1, m2⟩, m3⟩, m4⟩ := hm
            have e1 := Nat.eq_of_beq_eq_true m1
            have e2 := same_list m2
            have e3 := Nat.eq_of_beq_eq_true m3
            have e4 := same_list m4
            subst e1 e2 e3 e4
            -- the call at a memory of its own
            have main : ∀ ρ w (args' : Array Value), R ρ s.heap.get w → LR ρ (.slice (some ⟨b, 0, none⟩) cs2.length 1 :: r) args'.toList → ∃ q, ρ b = some q ∧ BR ρ w q ⟨cs2, t2, 1⟩ ∧
                Calls Tryz.prog f args' w fun x w' => ∃ ρ' v', x = .returned v' ∧ VR ρ' v0 v' ∧ Step (fun j => if j = 0 then some q else none) ((T.leaf : Heap).set 0 ⟨cs2, t2, 1⟩).get w ρ' s0.heap.get w' (Nw ⟨(T.leaf : Heap).set 0 ⟨cs2, t2, 1⟩, 1⟩ s0) := by
              intro ρ w args' hR hA
              obtain ⟨q, q1, q2⟩ := hR.live b _ hb
              refine ⟨q, q1, q2, ?_⟩
              obtain ⟨_, _, k⟩ := sound mixed hname (knows tab) (knows_ok h) n f _ _ v0 s0 hv
              refine k (fun j => if j = 0 then some q else none) w args' ⟨fun x y hx => ?_, fun x1 x2 y1 y2 z1 z2 g1 g2 _ _ _ => ?_, fun x z hz => ?_⟩ (fun x hx => by dsimp only at hx ⊢; rw [if_neg (by omega)]) ?_
              · dsimp only at hx; rw [T.get_set] at hx
                by_cases e : x = 0
                · rw [if_pos e] at hx; cases hx; exact ⟨q, if_pos e, br_plain q2 h1⟩
                · rw [if_neg e, leaf_get] at hx; cases hx
              · dsimp only at g1 g2; rw [T.get_set] at g1 g2
                by_cases e : x1 = 0
                · by_cases e2 : x2 = 0
                  · omega
                  · rw [if_neg e2, leaf_get] at g2; cases g2
                · rw [if_neg e, leaf_get] at g1; cases g1
              · by_cases e : x = 0
                · rw [if_pos e] at hz; cases hz; exact hR.lt _ _ q1
                · rw [if_neg e] at hz; cases hz
              · obtain ⟨y, ys, hy, w1, w2⟩ := hA.cons_inv
                rw [hy]
                refine LR.cons ?_ (by rw [lr_plain h2 w2]; exact LR.plain h2)
                cases w1 with
                | slice a1 a2 a3 =>
                  refine .slice a1 a2 (fun hC => ?_)
                  obtain ⟨q', b1, b2, b3, b4⟩ := a3 hC
                  dsimp only at b1 b2 b4
                  rw [q1] at b1; cases b1
                  exact ⟨q, if_pos rfl, b2, rfl, b4⟩
            -- what was there has not turned
            have keep : ∀ {ρ : Ren} {w w' : World} {ρ' : Ren} {q : RB}, R ρ s.heap.get w → ρ b = some q → Step (fun j => if j = 0 then some q else none) ((T.leaf : Heap).set 0 ⟨cs2, t2, 1⟩).get w ρ' s0.heap.get w' (Nw ⟨(T.leaf : Heap).set 0 ⟨cs2, t2, 1⟩, 1⟩ s0) →
                ρ' 0 = some q ∧ (∀ B, B < w.heap.size → B ≠ q.B → w'.heap[B]? = w.heap[B]?) ∧ ∀ x y, s.heap.get x = some y → ∃ z, ρ x = some z ∧ BR ρ w' z y := by
              intro ρ w w' ρ' q hR q1 st
              have r0 : ρ' 0 = some q := st.le 0 q (if_pos rfl)
              have hold : ∀ B, B < w.heap.size → B ≠ q.B → w'.heap[B]? = w.heap[B]? := by
                intro B hB hne
                refine st.old B hB ?_
                rintro ⟨x, y, z, g1, g2, g3⟩
                dsimp only at g2
                by_cases e : x = 0
                · rw [if_pos e] at g2; cases g2; exact hne g3.symm
                · rw [if_neg e] at g2; cases g2
              refine ⟨r0, hold, fun x y hx => ?_⟩
              obtain ⟨z, z1, z2⟩ := hR.live x y hx
              refine ⟨z, z1, ?_⟩
              by_cases e : x = b
              · subst e
                rw [hb] at hx; cases hx
                rw [q1] at z1; cases z1
                obtain ⟨q', p1, p2⟩ := st.rel.live 0 _ h30
                rw [r0] at p1; cases p1
                exact br_plain p2 h1
              · exact z2.mono (Ren.le_refl _) (hold _ (hR.lt _ _ z1) (fun e2 => e (hR.inj _ _ _ _ _ _ hx hb z1 q1 e2)))
            cases post with
            | none =>
              simp only [Bool.and_eq_true] at h4
              cases hr
              have hve := same_v h4.2
              subst hve
              refine ⟨Nat.le_refl _, fun ρ w args' hR hF hA => ?_⟩
              obtain ⟨q, q1, q2, hc⟩ := main ρ w args' hR hA
              refine hc.mono ?_
              rintro x w' ⟨ρ', v', rfl, hvr, st⟩
              obtain ⟨r0, hold, hlive⟩ := keep hR q1 st
              have hv' : VR ρ v0 v' := by
                have hpl := h4.1
                cases v0 with
                | agg c =>
                  cases hvr with
                  | agg hs hh =>
                    have := LR.of_agg hs hh
                    rw [show AE.plain (.agg c) = c.toList.all AE.plainCell from rfl] at hpl
                    have e := lr_plain hpl this
                    rw [Array.ext' e]; exact VR.plain hpl
                | _ => rw [vr_plain (by simpa [AE.plain] using hpl) hvr]; exact VR.plain hpl
              exact ⟨ρ, v', rfl, hv', Ren.le_refl _, st.same, ⟨hlive, hR.inj, fun y z hz => Nat.lt_of_lt_of_le (hR.lt y z hz) st.same.size⟩, fun B hB hf => hold B hB (fun e => hf ⟨b, _, q, hb, q1, e.symm⟩), fun B hf => .inl hf, fun _ _ => rfl, fun y z hz => .inr ⟨z, hz⟩⟩
            | some p3 =>
              obtain ⟨t3, cs3⟩ := p3
              simp only [Bool.and_eq_true] at h4
              obtain ⟨h5, h6⟩ := h4
              split at h6
              · rename_i k n3
                simp only [Bool.and_eq_true] at h6
                obtain ⟨⟨i1, i2⟩, i3⟩ := h6
                have j1 : 1 ≤ k := Nat.le_of_ble_eq_true i1
                have j2 := Nat.eq_of_beq_eq_true i2
                subst j2
                have j3 : s0.heap.get k = some ⟨cs3, t3, 1⟩ := by
                  split at i3
                  · rename_i c4 t4 hg
                    simp only [Bool.and_eq_true] at i3
                    rw [hg, same_list i3.2, Nat.eq_of_beq_eq_true i3.1]
                  · cases i3
                cases hr
                refine ⟨Nat.le_succ _, fun ρ w args' hR hF hA => ?_⟩
                obtain ⟨q, q1, q2, hc⟩ := main ρ w args' hR hA
                refine hc.mono ?_
                rintro x w' ⟨ρ', v', rfl, hvr, st⟩
                obtain ⟨r0, hold, hlive⟩ := keep hR q1 st
                obtain ⟨q3, p1, p2⟩ := st.rel.live k _ j3
                have hnew : w.heap.size ≤ q3.B := by
                  rcases st.foot q3.B ⟨k, _, q3, j3, p1, rfl⟩ with ⟨x, y, z, g1, g2, g3⟩ | q
                  · dsimp only at g2
                    by_cases e : x = 0
                    · rw [if_pos e] at g2; cases g2
                      have := st.rel.inj _ _ _ _ _ _ h30 j3 r0 p1 g3
                      omega
                    · rw [if_neg e] at g2; cases g2
                  · exact q
                have hnone : ρ s.ctr = none := hF s.ctr (Nat.le_refl _)
                have hle := Ren.le_upd (ρ := ρ) q3 hnone
                have hgs : ∀ x, (s.heap.set s.ctr ⟨cs3, t3, 1⟩).get x = if x = s.ctr then some ⟨cs3, t3, 1⟩ else s.heap.get x := fun x => T.get_set _ _ _ _
                refine ⟨ρ.upd s.ctr q3, v', rfl, ?_, hle, st.same, ⟨fun x y hx => ?_, fun x1 x2 y1 y2 z1 z2 g1 g2 u1 u2 eB => ?_, fun x z hz => ?_⟩, fun B hB hf => hold B hB (fun e => hf ⟨b, _, q, hb, q1, e.symm⟩), fun B hf => ?_, fun x hx => Ren.upd_other _ _ (fun e => hx ⟨by omega, by dsimp only; omega⟩), fun x y hx => ?_⟩
                · cases hvr with
                  | slice a1 a2 a3 =>
                    refine .slice a1 a2 (fun hC => ?_)
                    obtain ⟨q', b1, b2, b3, b4⟩ := a3 hC
                    dsimp only at b1 b2 b4
                    rw [p1] at b1; cases b1
                    exact ⟨q3, Ren.upd_same _ _ _, b2, rfl, b4⟩
                · dsimp only at hx; rw [hgs] at hx
                  by_cases e : x = s.ctr
                  · rw [if_pos e] at hx; cases hx
                    exact ⟨q3, by rw [e]; exact Ren.upd_same _ _ _, br_plain p2 h5⟩
                  · rw [if_neg e] at hx
                    obtain ⟨z, z1, z2⟩ := hlive x y hx
                    obtain ⟨d1, d2, d3, d4, d5, d6, d7, d8⟩ := z2
                    exact ⟨z, hle _ _ z1, d1, d2, d3, d4, d5, d6, d7, fun i hi => (d8 i hi).mono hle⟩
                · dsimp only at g1 g2; rw [hgs] at g1 g2
                  by_cases e1 : x1 = s.ctr
                  · by_cases e2 : x2 = s.ctr
                    · rw [e1, e2]
                    · rw [if_neg e2] at g2
                      rw [e1, Ren.upd_same] at u1; cases u1
                      rw [Ren.upd_other _ _ e2] at u2
                      have := hR.lt _ _ u2; omega
                  · rw [if_neg e1] at g1
                    rw [Ren.upd_other _ _ e1] at u1
                    by_cases e2 : x2 = s.ctr
                    · rw [e2, Ren.upd_same] at u2; cases u2
                      have := hR.lt _ _ u1; omega
                    · rw [if_neg e2] at g2
                      rw [Ren.upd_other _ _ e2] at u2
                      exact hR.inj _ _ _ _ _ _ g1 g2 u1 u2 eB
                · by_cases e : x = s.ctr
                  · rw [e, Ren.upd_same] at hz; cases hz; exact st.rel.lt _ _ p1
                  · rw [Ren.upd_other _ _ e] at hz; exact Nat.lt_of_lt_of_le (hR.lt _ _ hz) st.same.size
                · obtain ⟨x, y, z, g1, g2, g3⟩ := hf
                  dsimp only at g1; rw [hgs] at g1
                  by_cases e : x = s.ctr
                  · rw [e, Ren.upd_same] at g2; cases g2; exact .inr (by omega)
                  · rw [if_neg e] at g1; rw [Ren.upd_other _ _ e] at g2; exact .inl ⟨x, y, z, g1, g2, g3⟩
                · dsimp only at hx; rw [hgs] at hx
                  by_cases e : x = s.ctr
                  · exact .inl ⟨by omega, by dsimp only; omega⟩
                  · rw [if_neg e] at hx; exact .inr ⟨y, hx⟩
              · cases h6
          · cases hr
        · cases hr
      · cases hr
end Go.Proofs.YtegjkhgaoabfcaaGreat
