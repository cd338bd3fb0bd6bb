/- Part 11 (a part of the proof of UnstreamWith; no condition). -/
import Derived.Test.YtegjkhgaoabfcaaGreatWj
set_option linter.unusedSimpArgs false
set_option linter.unusedVariables false
set_option maxRecDepth 10000
namespace Go.Proofs.YtegjkhgaoabfcaaGreat
open Go.AE
abbrev coT (size : Nat) (pk : Pk) (tabs : List (List Nat)) : Co := ⟨size, pk, ⟨size, 0, []⟩, tabs, [], false⟩
theorem co_pk {L : List Bool} {size : Nat} {p : Pk} {n : Nat} {r : Except Nat (Pk × Nat)} (hr : Runs Pk.step pkF L p n r) :
    (∀ p' m, r = .ok (p', m) → Steps coS coF L (coT size p []) n (coT size p' []) m) ∧ ∀ e, r = .error e → ∃ p' m, Steps coS coF L (coT size p []) n (coT size p' []) m ∧ coS (coT size p' []) (L.drop m) = .error e := by
  induction hr with
  | stop h => exact ⟨fun p' m q => (by cases q; exact .refl _ _), fun e q => (by cases q)⟩
  | @fail p n e h k =>
    refine ⟨fun p' m q => (by cases q), fun e' q => ?_⟩
    cases q
    refine ⟨p, n, .refl _ _, ?_⟩
    simp only [pkF] at h
    simp only [coS, Co.step_eq, h, Bool.not_false, if_true, k]; rfl
  | @more p p' n k r h q m ih =>
    simp only [pkF] at h
    have hs : coS (coT size p []) (L.drop n) = .ok (coT size p' [], k) := by simp only [coS, Co.step_eq, h, Bool.not_false, if_true, q]; rfl
    refine ⟨fun t u w => .more rfl hs (ih.1 t u w), fun e w => ?_⟩
    obtain ⟨t, u, i1, i2⟩ := ih.2 e w
    exact ⟨t, u, .more rfl hs i1, i2⟩
theorem co_tab {L : List Bool} {k size : Nat} {pk : Pk} {tabs : List (List Nat)} (hp : pk.done = true) (ht : tabs.length < pk.t) {d : De} {m : Nat} {r : Except Nat (De × Nat)} (hr : Runs De.step deFin (L.drop k) d m r) : d.done = false →
    (∀ d' n, r = .ok (d', n) → whole d'.lens = true → Steps coS coF L ⟨size, pk, d, tabs, [], false⟩ (k + m) (coT size pk (tabs ++ [d'.lens])) (k + n)) ∧
    (∀ e, (r = .error e ∨ e = 22 ∧ ∃ d' n, r = .ok (d', n) ∧ whole d'.lens = false) → ∃ c' n', Steps coS coF L ⟨size, pk, d, tabs, [], false⟩ (k + m) c' n' ∧ c'.done = false ∧ c'.out = [] ∧ coS c' (L.drop n') = .error e) := by
  have hdd : ∀ m, L.drop (k + m) = (L.drop k).drop m := fun m => (List.drop_drop ..).symm
  have hst : ∀ d l, Co.step ⟨size, pk, d, tabs, [], false⟩ l = Co.tab ⟨size, pk, d, tabs, [], false⟩ l := fun d l => by
    simp only [Co.step_eq, hp, Bool.not_true, Bool.false_eq_true, if_false]; exact if_pos ht
  induction hr with
  | stop h => intro hd; simp only [deFin] at h; rw [hd] at h; cases h
  | @fail d m e h k' =>
    intro hd
    refine ⟨fun d' n q => (by cases q), fun e' q => ?_⟩
    rcases q with q | ⟨_, _, _, q, _⟩
    · cases q
      exact ⟨_, _, .refl _ _, rfl, rfl, by simp only [coS, hst, hdd, Co.tab, k']⟩
    · cases q
  | @more d d' m j r h q m' ih =>
    intro hd
    cases hb : d'.done with
    | false =>
      have hs : coS ⟨size, pk, d, tabs, [], false⟩ (L.drop (k + m)) = .ok (⟨size, pk, d', tabs, [], false⟩, j) := by simp only [coS, hst, hdd, Co.tab, q, hb, Bool.not_false, if_true]
      obtain ⟨i1, i2⟩ := ih hb
      simp only [← Nat.add_assoc] at i1 i2
      refine ⟨fun d2 n w1 w2 => .more rfl hs (i1 d2 n w1 w2), fun e w => ?_⟩
      obtain ⟨t, u, x1, x2⟩ := i2 e w
      exact ⟨t, u, .more rfl hs x1, x2⟩
    | true =>
      have hrr : r = .ok (d', m + j) := m'.det (.stop hb)
      subst hrr
      refine ⟨fun d2 n w1 w2 => ?_, fun e w => ?_⟩
      · cases w1
        have hs : coS ⟨size, pk, d, tabs, [], false⟩ (L.drop (k + m)) = .ok (coT size pk (tabs ++ [d'.lens]), j) := by
          simp only [coS, hst, hdd, Co.tab, q, hb, w2, Bool.not_true, Bool.false_eq_true, if_false]
        rw [← Nat.add_assoc]
        exact .more rfl hs (.refl _ _)
      · rcases w with w | ⟨rfl, d2, n, w, w2⟩
        · cases w
        · cases w
          exact ⟨_, _, .refl _ _, rfl, rfl, by simp only [coS, hst, hdd, Co.tab, q, hb, w2, Bool.not_true, Bool.not_false, Bool.false_eq_true, if_false, if_true]⟩
theorem de_facts {L : List Bool} {d : De} {m : Nat} {r : Except Nat (De × Nat)} (hr : Runs De.step deFin L d m r) : d.now ≤ 20 → (∀ x ∈ d.lens, 1 ≤ x ∧ x ≤ 20) → m ≤ L.length → (∀ d' n, r = .ok (d', n) → d'.lens.length = d.size ∧ (∀ x ∈ d'.lens, 1 ≤ x ∧ x ≤ 20) ∧ n ≤ L.length) ∧ ∀ e, r = .error e → e ≠ 0 := by
  induction hr with
  | stop h => intro h1 h2 h3; exact ⟨fun d' n q => (by cases q; simp only [deFin, De.done, beq_iff_eq] at h; exact ⟨h, h2, h3⟩), fun e q => (by cases q)⟩
  | @fail d m e h k' =>
    intro h1 h2 h3
    refine ⟨fun d' n q => (by cases q), fun e' q => ?_⟩
    cases q
    simp only [De.step] at k'
    repeat' split at k'
    all_goals first | (cases k'; decide) | (cases k'; done)
  | @more d d1 m j r h q m' ih =>
    intro h1 h2 h3
    have hp := De.step_pos q
    rw [List.length_drop] at hp
    have key : d1.size = d.size ∧ d1.now ≤ 20 ∧ ∀ x ∈ d1.lens, 1 ≤ x ∧ x ≤ 20 := by
      simp only [De.step] at q
      repeat' split at q
      all_goals first | (cases q; done) | skip
      · cases q; exact ⟨rfl, by dsimp only; omega, h2⟩
      · cases q; refine ⟨rfl, h1, fun x hx => ?_⟩
        rcases List.mem_append.mp hx with w | w
        · exact h2 x w
        · simp only [List.mem_singleton] at w; omega
      · cases q; exact ⟨rfl, by dsimp only; omega, h2⟩
      · cases q; exact ⟨rfl, by dsimp only; omega, h2⟩
    have := ih key.2.1 key.2.2 (by omega)
    rw [key.1] at this; exact this
abbrev tv (size b : Nat) : Value := .slice (some ⟨b, 0, none⟩) size 1
def TabR (tabs : List (List Nat)) (bs : List Nat) (g : Nat → Option Blk) : Prop := bs.length = tabs.length ∧ ∀ (i b : Nat) (l : List Nat), bs[i]? = some b → tabs[i]? = some l → g b = some ⟨(codesL l).map sv, 9, 1⟩
theorem TabR.kind {tabs : List (List Nat)} {bs : List Nat} {g : Nat → Option Blk} (h : TabR tabs bs g) : ∀ z ∈ bs, ∃ B, g z = some B ∧ B.elem ∈ [9] := by
  intro z hz
  obtain ⟨i, hi⟩ := List.getElem?_of_mem hz
  have hl := (List.getElem?_eq_some_iff.mp hi).1
  obtain ⟨l, hl2⟩ : ∃ l, tabs[i]? = some l := ⟨_, List.getElem?_eq_getElem (by rw [← h.1]; exact hl)⟩
  exact ⟨_, h.2 i z l hi hl2, by simp⟩
theorem TabR.move {tabs : List (List Nat)} {bs : List Nat} {g g' : Nat → Option Blk} (h : TabR tabs bs g) (hg : ∀ z ∈ bs, g' z = g z) : TabR tabs bs g' :=
  ⟨h.1, fun i b l h1 h2 => (hg b (List.mem_of_getElem? h1)).trans (h.2 i b l h1 h2)⟩
theorem TabR.add {tabs : List (List Nat)} {bs : List Nat} {g : Nat → Option Blk} {l : List Nat} {b : Nat} (h : TabR tabs bs g) (hb : g b = some ⟨(codesL l).map sv, 9, 1⟩) : TabR (tabs ++ [l]) (bs ++ [b]) g := by
  refine ⟨by simp [h.1], fun i b' l' h1 h2 => ?_⟩
  rcases Nat.lt_or_ge i bs.length with q | q
  · rw [List.getElem?_append_left q] at h1; rw [List.getElem?_append_left (by rw [← h.1]; exact q)] at h2; exact h.2 i b' l' h1 h2
  · have hlt := (List.getElem?_eq_some_iff.mp h1).1
    rw [List.length_append] at hlt; simp only [List.length_cons, List.length_nil] at hlt
    have e : i = bs.length := by omega
    subst e
    rw [List.getElem?_append_right (Nat.le_refl _), Nat.sub_self] at h1
    rw [List.getElem?_append_right (by rw [h.1]; exact Nat.le_refl _), h.1, Nat.sub_self] at h2
    cases h1; cases h2; exact hb
def TabsOk (size : Nat) (tabs : List (List Nat)) : Prop := ∀ l ∈ tabs, l.length = size ∧ whole l = true ∧ ∀ x ∈ l, 1 ≤ x ∧ x ≤ 20
section
variable {ov : OvT} (H : OvH ov)
include H
theorem rDeltaE_cr {h : Heap} {c size : Nat} {L : List Bool} (hL : L.length ≤ 1000000) (hz : 3 ≤ size ∧ size ≤ 258) :
    CR Tryz.prog ov 200 [.string (zs L), nv size] ⟨h, c⟩ (fun v st => ∃ (a : Option Addr) (n cp bits e : Nat), v = .agg #[.slice a n cp, nv bits, nv e] ∧
      ((e ≠ 0 ∧ DeltaR size L (.error e)) ∨ (e = 0 ∧ ∃ d, DeltaR size L (.ok (d, bits)) ∧ n = size ∧ d.lens.length = size ∧ (∀ x ∈ d.lens, 1 ≤ x ∧ x ≤ 20) ∧ bits ≤ L.length ∧ SlR 3 1 (d.lens.map nv) a n cp st.heap.get ∧ ∀ z ∈ own a, c ≤ z ∧ z < st.ctr)) ∧ Keep [] h c st) := by
  refine (rDelta_cr H hL hz).mono ?_
  rintro v st ⟨⟨r, hr, q⟩, k⟩
  have hf := de_facts hr (by dsimp only; omega) (by simp) (by omega)
  cases r with
  | error e => exact ⟨none, 0, 0, 0, e, q, .inl ⟨hf.2 e rfl, hr⟩, k⟩
  | ok y =>
    obtain ⟨d, n⟩ := y
    obtain ⟨a, cp, q1, q2, q3⟩ := q
    obtain ⟨f1, f2, f3⟩ := hf.1 d n rfl
    exact ⟨a, _, cp, n, 0, q1, .inr ⟨rfl, d, hr, f1, f1, f2, f3, q2, q3⟩, k⟩
theorem rTables_cr {h : Heap} {c k size : Nat} {L : List Bool} {pk : Pk} (hL : L.length ≤ 1000000) (hk : k ≤ L.length) (hz : 3 ≤ size ∧ size ≤ 258) (hp : pk.done = true) (ht : pk.t ≤ 6) :
    CR Tryz.prog ov 177 [.string (zs (L.drop k)), nv pk.t, nv size] ⟨h, c⟩ (fun v st =>
      ((∃ c' m e a n cp, Steps coS coF L (coT size pk []) k c' m ∧ c'.done = false ∧ c'.out = [] ∧ coS c' (L.drop m) = .error e ∧ e ≠ 0 ∧ v = .agg #[.slice a n cp, nv 0, nv e]) ∨
       (∃ tabs bits bs a cp, Steps coS coF L (coT size pk []) k (coT size pk tabs) (k + bits) ∧ k + bits ≤ L.length ∧ tabs.length = pk.t ∧ TabsOk size tabs ∧ v = .agg #[.slice a pk.t cp, nv bits, nv 0] ∧
         SlR 244 1 (bs.map (tv size)) a pk.t cp st.heap.get ∧ TabR tabs bs st.heap.get ∧ (∀ z ∈ own a, c ≤ z ∧ z < st.ctr) ∧ ∀ z ∈ bs, c ≤ z ∧ z < st.ctr)) ∧ Keep [] h c st) := by
  refine e_3 Tryz.func177 rfl (H _ (by decide)) Tryz.ntmps177 (by decide) ?_
  intro env hl
  refine sg 1 rfl (qZ i242 z242 rfl (nK (sg 3 rfl (qU hl rfl i242 z242 rfl (by simp [Program.built, Instr.fill, Tryz.underlying242, Value.cells]; rfl) ?_))))
  refine qZ i242 z242 rfl (qV hl rfl rfl (by first | assumption | (simp only [gs]; rfl) | (simp [gs]; try rfl)) p242 rfl rfl (by simp [Value.cells]) ?_)
  refine nK (rS (sg 2 rfl (qM hl rfl (qM hl rfl (nK (rB ?_))))))
  refine rL (fun m env' s' => ∃ j tabs bits bs a cp, m = pk.t - j ∧ j ≤ pk.t ∧ Hd 50 [(0, .string (zs (L.drop k))), (2, nv size), (6, ptr c), (7, ptr (c + 2)), (10, nv pk.t), (11, nv j)] env' ∧ tabs.length = j ∧ Steps coS coF L (coT size pk []) k (coT size pk tabs) (k + bits) ∧ k + bits ≤ L.length ∧ TabsOk size tabs ∧ s'.heap.get c = some ⟨[nilS, nv 0, nv 0], 242, 0⟩ ∧ s'.heap.get (c + 2) = some ⟨[.slice a j cp, nv bits, nv 0], 242, 0⟩ ∧ SlR 244 1 (bs.map (tv size)) a j cp s'.heap.get ∧ TabR tabs bs s'.heap.get ∧ (∀ z ∈ own a, c ≤ z ∧ z < s'.ctr) ∧ (∀ z ∈ bs, c ≤ z ∧ z < s'.ctr) ∧ c + 6 ≤ s'.ctr ∧ Keep [] h c s') pk.t ?_ ?_
  · refine ⟨0, [], 0, [], none, 0, rfl, Nat.zero_le _, Ho hl ⟨rfl, rfl, rfl, rfl, rfl, rfl, trivial⟩, rfl, .refl _ _, hk, fun l hl => by simp at hl, ?_, ?_, SlR.nil, ⟨rfl, fun i b l h1 => by simp at h1⟩, by simp [own], by simp, by dsimp only; omega, ((((Keep.refl (Nat.le_refl c)).set (.inl (by omega))).set (.inl (by omega))).set (.inl (by omega))).up (by omega)⟩
    · dsimp only; rw [T.get_set, if_neg (by omega), T.get_set, if_neg (by omega), T.get_set, if_pos (by omega)]; rfl
    · dsimp only; rw [T.get_set, if_pos (by omega)]; rfl
  rintro m _ ⟨h2, c2⟩ ⟨j, tabs, bits, bs, a, cp, rfl, hj, ⟨env, hl, rfl⟩, htl, hSt, hbit, hok, hb6, hb7, hS, hT, hO, hOb, hc2, hK⟩
  dsimp only at hb6 hb7 hS hT hO hOb hc2
  have hld : (L.drop k).length = L.length - k := List.length_drop
  refine sg 1 rfl (qB hl rfl rfl rfl (nK (rS ?_)))
  refine rC hl rfl (fun hjt => ?_) (fun hjt => ?_)
  · try simp only [dz, dy] at hjt
    refine rK (kN (rS (rB (sg 8 rfl (qM hl rfl (qF hl rfl fa242_1 (qL hl rfl (by first | assumption | (simp only [gs]; rfl) | (simp [gs]; try rfl)) ((p3.1 _ _).trans rfl) ?_)))))))
    refine qT (s := zl (L.drop k)) bits (zl (L.drop k)).length hl rfl Tryz.underlying9 rfl rfl ⟨by rw [zl_len]; omega, Nat.le_refl _⟩ ?_
    rw [zl_rest, List.drop_drop]
    refine qM hl rfl (qC hl rfl (CR.mono (rDeltaE_cr H (L := L.drop (k + bits)) (by rw [List.length_drop]; omega) hz) ?_))
    rintro v ⟨hh1, cc1⟩ ⟨a1, n1, cp1, b1, e1, rfl, hcase, hK1⟩
    have hcc1 := hK1.1
    dsimp only at hcc1 hcase
    refine qZ i272 z272 rfl (qV hl rfl rfl (by first | assumption | (simp only [gs]; rfl) | (simp [gs]; try rfl)) p272 rfl rfl (by simp [Value.cells]) ?_)
    refine ro_gen (fun H6 hH6 => ?_)
    have hx6 : ∀ x, x ≠ c2 + 7 → H6.get x = hh1.get x := fun x hx => by rw [hH6]; simp only [T.get_set]; rw [if_neg (by omega), if_neg (by omega)]
    have hb8 : H6.get (c2 + 7) = some ⟨[.slice a1 n1 cp1, nv b1, nv e1], 272, 0⟩ := by rw [hH6, T.get_set, if_pos (by omega)]; rfl
    have hlow : ∀ x, x < c2 → H6.get x = h2.get x := fun x hx => (hx6 x (by omega)).trans (hK1.2 x (by omega) (by simp))
    have hb66 := (hlow c (by omega)).trans hb6
    have hb76 := (hlow (c + 2) (by omega)).trans hb7
    have hK6 : Keep [] h c ⟨H6, cc1⟩ := ⟨by dsimp only; omega, fun x hx _ => (hlow x (by omega)).trans (hK.2 x hx (by simp))⟩
    refine nK (rS (sg 3 rfl (qF hl rfl fa272_2 (qL hl rfl (by first | assumption | (simp only [gs]; rfl) | (simp [gs]; try rfl)) ((p3.1 _ _).trans rfl) ?_))))
    refine qB hl rfl rfl rfl (nK ?_)
    refine rC hl rfl (fun herr => ?_) (fun herr => ?_)
    · try simp only [dz, dy] at herr
      refine sg 6 rfl (qF hl rfl fa242_0 (qL hl rfl (by first | assumption | (simp only [gs]; rfl) | (simp [gs]; try rfl)) ((p240.1 _ _).trans rfl) ?_))
      refine qF hl rfl fa272_2 (qL hl rfl (by first | assumption | (simp only [gs]; rfl) | (simp [gs]; try rfl)) ((p3.1 _ _).trans rfl) ?_)
      refine qU hl rfl i242 z242 rfl (by simp [Program.built, Instr.fill, Tryz.underlying242, Value.cells]; rfl) ?_
      refine qV hl rfl rfl (by first | assumption | (simp only [gs]; rfl) | (simp [gs]; try rfl)) p242 rfl rfl (by simp [Value.cells]) ?_
      refine nK (rR (kR (k_bloR (kR (kR (k_bloR (kR (f_c hl rfl (.inl rfl) rfl  (T.get_set _ _ _ _ |>.trans (if_pos rfl)) ((p242.1 _ _).trans rfl) ?_))))))))
      have hd : e1 ≠ 0 ∧ DeltaR size (L.drop (k + bits)) (.error e1) := by rcases hcase with q | ⟨q, _⟩; exact q; (subst q; simp at herr)
      obtain ⟨c', m', s1, s2, s3, s4⟩ := (co_tab (size := size) (k := k + bits) (tabs := tabs) hp (by omega) hd.2 (by simp [De.done]; omega)).2 e1 (.inl rfl)
      exact ⟨.inl ⟨c', m', e1, a, j, cp, hSt.trans s1, s2, s3, s4, hd.1, rfl⟩, (hK6.set (.inl (by omega))).up (by omega)⟩
    · try simp only [dz, dy] at herr
      obtain ⟨rfl, d, hDR, rfl, hdl, hd20, hdb, hdS, hdO⟩ : e1 = 0 ∧ ∃ d, DeltaR size (L.drop (k + bits)) (.ok (d, b1)) ∧ n1 = size ∧ d.lens.length = size ∧ (∀ x ∈ d.lens, 1 ≤ x ∧ x ≤ 20) ∧ b1 ≤ (L.drop (k + bits)).length ∧ SlR 3 1 (d.lens.map nv) a1 n1 cp1 hh1.get ∧ ∀ z ∈ own a1, c2 + 9 ≤ z ∧ z < cc1 := by rcases hcase with ⟨q, _⟩ | ⟨q, d, q1, q2, q3, q4, q5, q6, q7⟩; (exfalso; simp at herr; omega); exact ⟨q, d, q1, q2, q3, q4, q5, q6, fun x hx => by have := q7 x hx; omega⟩
      have hct := co_tab (size := n1) (k := k + bits) (tabs := tabs) hp (by omega) hDR (by simp [De.done]; omega)
      rw [List.length_drop] at hdb
      refine rK (kN (sg 7 rfl ?_))
      skip
      refine qF hl rfl fa242_1 (qL hl rfl (by first | assumption | (simp only [gs]; rfl) | (simp [gs]; try rfl)) ((p3.1 _ _).trans rfl) ?_)
      refine qF hl rfl fa272_1 (qL hl rfl (by first | assumption | (simp only [gs]; rfl) | (simp [gs]; try rfl)) ((p3.1 _ _).trans rfl) ?_)
      refine qP hl rfl rfl (by first | exact wI (by omega) | exact wU (by omega) | exact wB (by omega) | exact wL (by omega) | rfl) ?_
      refine qF hl rfl fa242_1 (qW hl rfl rfl (by first | assumption | (simp only [gs]; rfl) | (simp [gs]; try rfl)) p3 rfl rfl (by first | decide | (simp; done) | (simp; omega)) ?_)
      refine ro_gen (fun H7 hH7 => ?_)
      have hx7 : ∀ x, x ≠ c + 2 → H7.get x = H6.get x := fun x hx => by rw [hH7, T.get_set, if_neg hx]
      have hb77 : H7.get (c + 2) = some ⟨[.slice a j cp, nv (bits + b1), nv 0], 242, 0⟩ := by rw [hH7, T.get_set, if_pos rfl]; rfl
      have hb87 := (hx7 (c2 + 7) (by omega)).trans hb8
      have hb67 := (hx7 c (by omega)).trans hb66
      have hK7 : Keep [] h c ⟨H7, cc1⟩ := by rw [hH7]; exact hK6.set (.inl (by omega))
      have hdS7 := hdS.move (g' := H7.get) (fun x hx => by have := hdO x hx; exact (hx7 x (by omega)).trans (hx6 x (by omega)))
      refine nK (rS (sg 4 rfl (qF hl rfl fa272_0 (qL hl rfl (by first | assumption | (simp only [gs]; rfl) | (simp [gs]; try rfl)) ((p171.1 _ _).trans rfl) ?_))))
      refine qC hl rfl (CR.mono (rWhole_cr H hdS7 (by omega) hd20) ?_)
      rintro v ⟨hh2, cc2⟩ ⟨rfl, rfl, hk⟩
      try dsimp only at hk
      refine q_un hl rfl rfl (nK ?_)
      refine rC hl rfl (fun hw => ?_) (fun hw => ?_)
      · try simp only [dz, dy] at hw
        refine sg 4 rfl (qF hl rfl fa242_0 (qL hl rfl (by first | assumption | (simp only [gs]; rfl) | (simp [gs]; try rfl)) ((p240.1 _ _).trans rfl) ?_))
        refine qU hl rfl i242 z242 rfl (by simp [Program.built, Instr.fill, Tryz.underlying242, Value.cells]; rfl) ?_
        refine qV hl rfl rfl (by first | assumption | (simp only [gs]; rfl) | (simp [gs]; try rfl)) p242 rfl rfl (by simp [Value.cells]) ?_
        refine nK (rR (kR (k_bloR (kR (kR (k_bloR (kR (f_c hl rfl (.inl rfl) rfl  (T.get_set _ _ _ _ |>.trans (if_pos rfl)) ((p242.1 _ _).trans rfl) ?_))))))))
        have hw2 : whole d.lens = false := by simpa using hw
        obtain ⟨c', m', s1, s2, s3, s4⟩ := hct.2 22 (.inr ⟨rfl, d, b1, rfl, hw2⟩)
        exact ⟨.inl ⟨c', m', 22, a, j, cp, hSt.trans s1, s2, s3, s4, by decide, rfl⟩, (hK7.set (.inl (by omega))).up (by dsimp only at *; omega)⟩
      · try simp only [dz, dy] at hw
        have hw2 : whole d.lens = true := by simpa using hw
        have hs2 := hSt.trans (hct.1 d b1 rfl hw2)
        refine rK (kN (rD [(1, 5)] (by decide +kernel) (by decide +kernel) (n := 9) rfl ?_))
        refine qF hl rfl fa242_0 (qL hl rfl (by first | assumption | (simp only [gs]; rfl) | (simp [gs]; try rfl)) ((p240.1 _ _).trans rfl) ?_)
        refine qF hl rfl fa272_0 (qL hl rfl (by first | assumption | (simp only [gs]; rfl) | (simp [gs]; try rfl)) ((p171.1 _ _).trans rfl) ?_)
        refine qC hl rfl (CR.mono (rCodesOf_cr H hdS7 (fun z hz => by have := hdO z hz; dsimp only at *; omega) hz hd20) ?_)
        rintro v ⟨hh3, cc3⟩ ⟨bn, rfl, hbn, hbn1, hbn2, hK3⟩
        have hcc3 := hK3.1
        dsimp only at hcc3 hbn hbn2
        have hn2 : c + 2 ∉ own a := own_ne hS hb7 (by dsimp only; decide)
        have hn2b : c + 2 ∉ bs := kind_ne hT.kind hb7 (by dsimp only; decide)
        have hnc : c ∉ own a := own_ne hS hb6 (by dsimp only; decide)
        have hnb : ∀ z ∈ bs, z ∉ own a := fun z hz => by obtain ⟨B, hB1, hB2⟩ := hT.kind z hz; exact own_ne hS hB1 (by simp at hB2; rw [hB2]; decide)
        have hmv : ∀ x, x < c2 → x ≠ c + 2 → hh3.get x = h2.get x := fun x h1 h2 => (hK3.2 x (by dsimp only at *; omega) (by simp)).trans ((hx7 x h2).trans (hlow x h1))
        have hS3 := hS.move (g' := hh3.get) (fun x hx => hmv x (hO x hx).2 (fun q => hn2 (q ▸ hx)))
        have hT3 := hT.move (g' := hh3.get) (fun x hx => hmv x (hOb x hx).2 (fun q => hn2b (q ▸ hx)))
        have hb73 := (hK3.2 (c + 2) (by dsimp only at *; omega) (by simp)).trans hb77
        have hb63 := hmv c (by omega) (by omega)
        refine q1_ hl rfl a240 rfl (qX hl rfl rfl a240 a240 (hS3.move (fun z hz => by have := hO z hz; rw [T.get_set, if_neg (by dsimp only at *; omega)])) ((T.get_set _ _ _ _).trans (if_pos rfl)) rfl (by omega) (by omega) ?_)
        intro a2 cp2 h4 hS4 hO4 hF4
        have hmv4 : ∀ x, x < c2 → x ∉ own a → h4.get x = hh3.get x := fun x hx hx2 => (hF4 x (by dsimp only at *; omega) hx2).trans (by rw [T.get_set, if_neg (by dsimp only at *; omega)])
        have hb74 := (hmv4 (c + 2) (by omega) hn2).trans hb73
        have hb64 := (hmv4 c (by omega) hnc).trans (hb63.trans hb6)
        have hbn4 : h4.get bn = some ⟨(codesL d.lens).map sv, 9, 1⟩ := (hF4 bn (by dsimp only at *; omega) (fun m => by have := hO bn m; dsimp only at *; omega)).trans (by rw [T.get_set, if_neg (by dsimp only at *; omega)]; exact hbn)
        refine qF hl rfl fa242_0 (qW hl rfl rfl (by first | assumption | (simp only [gs]; rfl) | (simp [gs]; try rfl)) p240 rfl rfl (by first | decide | (simp; done) | (simp; omega)) ?_)
        refine ro_nilp ?_ ?_
        · exact all1 (pair_load hl rfl rfl rfl rfl ((heapAt_old rfl (by dsimp only at *; omega)).trans hb73) ((p240.1 _ _).trans rfl) rfl (same_slice _ _ _))
        refine kO (kN (rg 2 rfl (qP hl rfl rfl (by first | exact wI (by omega) | exact wU (by omega) | exact wB (by omega) | exact wL (by omega) | rfl) ?_)))
        refine qM hl rfl (nK ?_)
        have htl2 : tabs.length = bs.length := hT.1.symm
        refine ⟨pk.t - (j + 1), by omega, j + 1, tabs ++ [d.lens], bits + b1, bs ++ [bn], a2, cp2, rfl, by omega, Ho hl ⟨rfl, rfl, rfl, rfl, rfl, rfl, trivial⟩, by simp [htl], by rw [← Nat.add_assoc]; exact hs2, by omega, ?_, ?_, ?_, ?_, ?_, ?_, ?_, by dsimp only at *; omega, ?_⟩
        · intro l hl; rcases List.mem_append.mp hl with q | q; (exact hok l q); (simp only [List.mem_singleton] at q; subst q; exact ⟨hdl, hw2, hd20⟩)
        · dsimp only; rw [T.get_set, if_neg (by omega)]; exact hb64
        · dsimp only; rw [T.get_set, if_pos (by omega)]; rfl
        · rw [List.map_append]; exact hS4.move (fun z hz => by have := hO4 z hz; dsimp only at *; rw [T.get_set, if_neg (by omega)])
        · refine ((hT3.move (g' := h4.get) (fun z hz => hmv4 z (hOb z hz).2 (hnb z hz))).add hbn4).move (fun z hz => ?_)
          dsimp only; rw [T.get_set, if_neg]; intro q; rcases List.mem_append.mp hz with q2 | q2; (subst q; exact hn2b q2); (simp only [List.mem_singleton] at q2; dsimp only at *; omega)
        · intro z hz; have := hO4 z hz; dsimp only at *; omega
        · intro z hz; rcases List.mem_append.mp hz with q2 | q2; (have := hOb z q2; dsimp only at *; omega); (simp only [List.mem_singleton] at q2; dsimp only at *; omega)
        · exact (((hK7.up (by dsimp only at *; omega)).call hK3 (by simp)).app2 hF4 (fun z hz => .inl (hO z hz).1) (by dsimp only at *; omega) (by dsimp only at *; omega) (Nat.le_refl _)).set (.inl (by omega)) |>.up (by dsimp only at *; omega)
  · try simp only [dz, dy] at hjt
    have ej : j = pk.t := by omega
    subst ej
    refine r_exit (kE (kE (kB (kN (sg 2 rfl (qL hl rfl (by first | assumption | (simp only [gs]; rfl) | (simp [gs]; try rfl)) ((p242.1 _ _).trans rfl) ?_))))))
    refine qV hl rfl rfl (by first | assumption | (simp only [gs]; rfl) | (simp [gs]; try rfl)) p242 rfl rfl (by simp [Value.cells]) ?_
    refine nK (rR (f_c hl rfl (.inl rfl) rfl  (T.get_set _ _ _ _ |>.trans (if_pos rfl)) ((p242.1 _ _).trans rfl) ?_))
    have hn1 : c ∉ own a := own_ne hS hb6 (by dsimp only; decide)
    have hn2 : c ∉ bs := kind_ne hT.kind hb6 (by dsimp only; decide)
    exact ⟨.inr ⟨tabs, bits, bs, a, cp, hSt, hbit, htl, hok, rfl, hS.move (fun z hz => by dsimp only; rw [T.get_set, if_neg (fun q => hn1 (by rw [← Nat.add_zero c, ← q]; exact hz))]), hT.move (fun z hz => by dsimp only; rw [T.get_set, if_neg (fun q => hn2 (by rw [← Nat.add_zero c, ← q]; exact hz))]), fun z hz => by have := hO z hz; dsimp only; omega, fun z hz => by have := hOb z hz; dsimp only; omega⟩, (hK.set (.inl (by omega))).up (by omega)⟩
end
abbrev coO (size : Nat) (pk : Pk) (tabs : List (List Nat)) (out : List Nat) (done : Bool) : Co := ⟨size, pk, ⟨size, 0, []⟩, tabs, out, done⟩
theorem co_sym {l : List Bool} {size : Nat} {pk : Pk} {tabs : List (List Nat)} {out : List Nat} (hp : pk.done = true) (ht : tabs.length = pk.t) :
    (pk.picks.length ≤ out.length / 50 → coS (coO size pk tabs out false) l = .error 25) ∧
    ∀ pick tab, pk.picks[out.length / 50]? = some pick → tabs[pick]? = some tab → whole tab = true → (∀ x ∈ tab, 1 ≤ x ∧ x ≤ 20) →
      ((codesL tab).findIdx? (begB l) = none → coS (coO size pk tabs out false) l = .error 3) ∧
      ∀ s, (codesL tab).findIdx? (begB l) = some s → s < tab.length ∧ 1 ≤ (codeB tab s).length ∧ (codeB tab s).length ≤ l.length ∧ coS (coO size pk tabs out false) l = .ok (coO size pk tabs (out ++ [s]) (s + 1 == size), (codeB tab s).length) := by
  have hst : Co.step (coO size pk tabs out false) l = Co.sym (coO size pk tabs out false) l := by
    simp only [Co.step_eq, hp, Bool.not_true, Bool.false_eq_true, if_false]; exact if_neg (by omega)
  refine ⟨fun h => ?_, fun pick tab h1 h2 hw h20 => ?_⟩
  · simp only [coS, hst, Co.sym]; rw [if_pos h]
  · have hlt := (List.getElem?_eq_some_iff.mp h1).1
    have e1 : tabs.getD (pk.picks.getD (out.length / 50) 0) [] = tab := by rw [List.getD_eq_getElem?_getD, List.getD_eq_getElem?_getD, h1, Option.getD_some, h2]; rfl
    have hs : coS (coO size pk tabs out false) l = match getC tab 1 0 l with
        | .error e => .error e
        | .ok q => .ok (coO size pk tabs (out ++ [q.1]) (q.1 + 1 == size), q.2) := by
      simp only [coS, hst, Co.sym]; rw [if_neg (by omega), e1]
      cases getC tab 1 0 l <;> rfl
    have hg := get_law h20 hw l
    cases hq : getC tab 1 0 l with
    | error e =>
      rw [hq] at hg hs
      exact ⟨fun _ => by rw [hs, hg.1], fun s h => (by rw [hg.2] at h; cases h)⟩
    | ok y =>
      obtain ⟨s, m⟩ := y
      rw [hq] at hg hs
      refine ⟨fun h => (by rw [hg.1] at h; cases h), fun s' h => ?_⟩
      rw [hg.1] at h; cases h
      have hl := codeB_len hg.2
      have hm := h20 m (List.mem_of_getElem? hg.2)
      refine ⟨(List.getElem?_eq_some_iff.mp hg.2).1, by omega, ?_, by rw [hs, hl]⟩
      have := (List.findIdx?_eq_some_iff_getElem.mp hg.1)
      obtain ⟨h3, h4, _⟩ := this
      have e : (codesL tab)[s]'h3 = codeB tab s := by simp [codesL]
      rw [e] at h4
      simp only [begB, Bool.and_eq_true, decide_eq_true_eq] at h4
      exact h4.1
section
variable {ov : OvT} (H : OvH ov)
include H
theorem rPicksE_cr {h : Heap} {c : Nat} {L : List Bool} (hL : L.length ≤ 1000000) :
    CR Tryz.prog ov 176 [.string (zs L)] ⟨h, c⟩ (fun v st => ∃ (a : Option Addr) (n cp t bits to e : Nat), v = .agg #[.slice a n cp, nv t, nv bits, nv to, nv e] ∧
      ((e ≠ 0 ∧ Runs Pk.step pkF L Pk.none 0 (.error e)) ∨ (e = 0 ∧ ∃ p, Runs Pk.step pkF L Pk.none 0 (.ok (p, bits)) ∧ p.good ∧ p.done = true ∧ bits ≤ L.length ∧ n = p.picks.length ∧ t = p.t ∧ SlR 3 1 (p.picks.map nv) a n cp st.heap.get ∧ ∀ z ∈ own a, c ≤ z ∧ z < st.ctr)) ∧ Keep [] h c st) := by
  refine (rPicks_cr H hL).mono ?_
  rintro v st ⟨⟨r, hr, q⟩, k⟩
  cases r with
  | error e => obtain ⟨q0, to, q⟩ := q; exact ⟨none, 0, 0, 0, 0, to, e, q, .inl ⟨q0, hr⟩, k⟩
  | ok y => obtain ⟨p, n⟩ := y; obtain ⟨q1, q2, q3, a, cp, to, q4, q5, q6⟩ := q; exact ⟨a, _, cp, _, n, to, 0, q4, .inr ⟨rfl, p, hr, q1, q2, q3, rfl, rfl, q5, q6⟩, k⟩
theorem rTablesE_cr {h : Heap} {c k size : Nat} {L : List Bool} {pk : Pk} (hL : L.length ≤ 1000000) (hk : k ≤ L.length) (hz : 3 ≤ size ∧ size ≤ 258) (hp : pk.done = true) (ht : pk.t ≤ 6) :
    CR Tryz.prog ov 177 [.string (zs (L.drop k)), nv pk.t, nv size] ⟨h, c⟩ (fun v st => ∃ (a : Option Addr) (n cp bits e : Nat), v = .agg #[.slice a n cp, nv bits, nv e] ∧
      ((e ≠ 0 ∧ ∃ c' m, Steps coS coF L (coT size pk []) k c' m ∧ c'.done = false ∧ c'.out = [] ∧ coS c' (L.drop m) = .error e) ∨
       (e = 0 ∧ ∃ tabs bs, n = pk.t ∧ Steps coS coF L (coT size pk []) k (coT size pk tabs) (k + bits) ∧ k + bits ≤ L.length ∧ tabs.length = pk.t ∧ TabsOk size tabs ∧
         SlR 244 1 (bs.map (tv size)) a n cp st.heap.get ∧ TabR tabs bs st.heap.get ∧ (∀ z ∈ own a, c ≤ z ∧ z < st.ctr) ∧ ∀ z ∈ bs, c ≤ z ∧ z < st.ctr)) ∧ Keep [] h c st) := by
  refine (rTables_cr H hL hk hz hp ht).mono ?_
  rintro v st ⟨⟨c', m, e, a, n, cp, q1, q2, q3, q4, q5, q6⟩ | ⟨tabs, bits, bs, a, cp, q1, q2, q3, q4, q5, q6, q7, q8, q9⟩, k⟩
  · exact ⟨a, n, cp, 0, e, q6, .inl ⟨q5, c', m, q1, q2, q3, q4⟩, k⟩
  · exact ⟨a, _, cp, bits, 0, q5, .inr ⟨rfl, tabs, bs, rfl, q1, q2, q3, q4, q6, q7, q8, q9⟩, k⟩
theorem rGetE_cr {h : Heap} {c n cp : Nat} {cs : List (List Bool)} {A : List Bool} {a : Option Addr} (hS : SlR 9 1 (cs.map sv) a n cp h.get) (hn : n ≤ 1000) :
    CR Tryz.prog ov 178 [.slice a n cp, .string (zs A)] ⟨h, c⟩ (fun v st => ∃ x : Int, v = iv x ∧ ((x = -1 ∧ cs.findIdx? (begB A) = none) ∨ ∃ s : Nat, x = s ∧ cs.findIdx? (begB A) = some s) ∧ Same h c st) := by
  refine (rGet_cr H hS hn).mono ?_
  rintro v st ⟨q, k⟩
  cases hf : cs.findIdx? (begB A) with
  | none => rw [hf] at q; exact ⟨-1, q, .inl ⟨rfl, rfl⟩, k⟩
  | some s => rw [hf] at q; exact ⟨s, q, .inr ⟨s, rfl, rfl⟩, k⟩
theorem rSome_cr {h : Heap} {c size : Nat} {L : List Bool} (hL : L.length ≤ 1000000) (hz : 3 ≤ size ∧ size ≤ 258) :
    CR Tryz.prog ov 147 [.string (zs L), nv size] ⟨h, c⟩ (fun v st => ∃ (a : Option Addr) (n cp : Nat), v = .slice a n cp ∧ (∃ c' m, Last coS coF L (Co.new size) 0 c' m ∧ SlR 3 1 (c'.out.map nv) a n cp st.heap.get ∧ n ≤ L.length ∧ (∀ x ∈ c'.out, x < size) ∧ ∀ i, c'.out[i]? = some (size - 1) → i + 1 = n) ∧ (∀ z ∈ own a, c ≤ z ∧ z < st.ctr) ∧ Keep [] h c st) := by
  have hsz : (zs L).size = L.length := by rw [txt_size, zl_len]
  refine e_2 Tryz.func147 rfl (H _ (by decide)) Tryz.ntmps147 (by decide) ?_
  intro env hl
  refine sg 1 rfl (qA hl rfl (nK (sg 4 rfl (qM hl rfl (qC hl rfl (CR.mono (rPicksE_cr H hL) ?_))))))
  rintro v ⟨hh1, cc1⟩ ⟨a1, n1, cp1, t, b1, to, e1, rfl, hcase, hK1⟩
  have hcc1 := hK1.1
  dsimp only at hcc1 hcase
  refine qZ i238 z238 rfl (qV hl rfl rfl (by first | assumption | (simp only [gs]; rfl) | (simp [gs]; try rfl)) p238 rfl rfl (by simp [Value.cells]) ?_)
  refine ro_gen (fun H2 hH2 => ?_)
  have hx2 : ∀ x, x ≠ c + 3 → H2.get x = hh1.get x := fun x hx => by rw [hH2]; simp only [T.get_set]; rw [if_neg (by omega), if_neg (by omega)]
  have hb5 : H2.get (c + 3) = some ⟨[.slice a1 n1 cp1, nv t, nv b1, nv to, nv e1], 238, 0⟩ := by rw [hH2, T.get_set, if_pos (by omega)]; rfl
  have hK2 : Keep [] h c ⟨H2, cc1⟩ := ⟨by dsimp only; omega, fun x hx _ => (hx2 x (by omega)).trans (hK1.2 x (by omega) (by simp))⟩
  refine nK (rS (sg 3 rfl (qF hl rfl fa238_4 (qL hl rfl (by first | assumption | (simp only [gs]; rfl) | (simp [gs]; try rfl)) ((p3.1 _ _).trans rfl) ?_))))
  refine qB hl rfl rfl rfl (nK ?_)
  refine rC hl rfl (fun herr => ?_) (fun herr => ?_)
  · try simp only [dz, dy] at herr
    refine sg 1 rfl (qA hl rfl (nK (rR (kR (f_1 hl rfl (.inl rfl) rfl ?_)))))
    have hd : e1 ≠ 0 ∧ Runs Pk.step pkF L Pk.none 0 (.error e1) := by rcases hcase with q | ⟨q, _⟩; exact q; (subst q; simp at herr)
    obtain ⟨p', m', s1, s2⟩ := (co_pk (size := size) hd.2).2 e1 rfl
    exact ⟨none, 0, 0, rfl, ⟨_, m', ⟨s1, .inr ⟨e1, s2⟩⟩, SlR.nil, Nat.zero_le _, by simp, by simp⟩, by simp [own], hK2.up (by omega)⟩
  · try simp only [dz, dy] at herr
    obtain ⟨rfl, p, hRp, hg, hpd, hb1, rfl, rfl, hS1, hO1⟩ : e1 = 0 ∧ ∃ p, Runs Pk.step pkF L Pk.none 0 (.ok (p, b1)) ∧ p.good ∧ p.done = true ∧ b1 ≤ L.length ∧ n1 = p.picks.length ∧ t = p.t ∧ SlR 3 1 (p.picks.map nv) a1 n1 cp1 hh1.get ∧ ∀ z ∈ own a1, c + 5 ≤ z ∧ z < cc1 := by rcases hcase with ⟨q, _⟩ | ⟨q, d, q1, q2, q3, q4, q5, q6, q7, q8⟩; (exfalso; simp at herr; omega); exact ⟨q, d, q1, q2, q3, q4, q5, q6, q7, fun x hx => by have := q8 x hx; omega⟩
    have hst1 := (co_pk (size := size) hRp).1 p b1 rfl
    refine rK (kN (rS (rD [] (by decide +kernel) (by decide +kernel) (n := 10) rfl ?_)))
    refine qM hl rfl (qF hl rfl fa238_2 (qL hl rfl (by first | assumption | (simp only [gs]; rfl) | (simp [gs]; try rfl)) ((p3.1 _ _).trans rfl) ?_))
    refine qT (s := zl L) b1 (zl L).length hl rfl Tryz.underlying9 rfl rfl ⟨by rw [zl_len]; omega, Nat.le_refl _⟩ ?_
    rw [zl_rest]
    refine qF hl rfl fa238_1 (qL hl rfl (by first | assumption | (simp only [gs]; rfl) | (simp [gs]; try rfl)) ((p3.1 _ _).trans rfl) ?_)
    refine qM hl rfl (qC hl rfl (CR.mono (rTablesE_cr H (k := b1) (pk := p) hL hb1 hz hpd hg.2.2.1) ?_))
    rintro v ⟨hh3, cc3⟩ ⟨a2, n2, cp2, b2, e2, rfl, hcase2, hK3⟩
    have hcc3 := hK3.1
    dsimp only at hcc3 hcase2
    refine qZ i242 z242 rfl (qV hl rfl rfl (by first | assumption | (simp only [gs]; rfl) | (simp [gs]; try rfl)) p242 rfl rfl (by simp [Value.cells]) ?_)
    refine ro_gen (fun H5 hH5 => ?_)
    have hx5 : ∀ x, x ≠ cc1 + 11 → H5.get x = hh3.get x := fun x hx => by rw [hH5]; simp only [T.get_set]; rw [if_neg (by omega), if_neg (by omega)]
    have hb6 : H5.get (cc1 + 11) = some ⟨[.slice a2 n2 cp2, nv b2, nv e2], 242, 0⟩ := by rw [hH5, T.get_set, if_pos (by omega)]; rfl
    have hlow : ∀ x, x < cc1 → H5.get x = H2.get x := fun x hx => (hx5 x (by omega)).trans (hK3.2 x (by omega) (by simp))
    have hb55 := (hlow (c + 3) (by omega)).trans hb5
    have hK5 : Keep [] h c ⟨H5, cc3⟩ := ⟨by dsimp only; omega, fun x hx _ => (hlow x (by omega)).trans (hK2.2 x hx (by simp))⟩
    have hS15 := hS1.move (g' := H5.get) (fun x hx => by have := hO1 x hx; exact (hlow x (by omega)).trans (hx2 x (by omega)))
    refine ro_nild (kN (rS (sg 3 rfl (qF hl rfl fa242_2 (qL hl rfl (by first | assumption | (simp only [gs]; rfl) | (simp [gs]; try rfl)) ((p3.1 _ _).trans rfl) ?_)))))
    refine qB hl rfl rfl rfl (nK ?_)
    refine rC hl rfl (fun herr2 => ?_) (fun herr2 => ?_)
    · try simp only [dz, dy] at herr2
      refine sg 1 rfl (qA hl rfl (nK (rR (kR (f_1 hl rfl (.inl rfl) rfl ?_)))))
      have hd : e2 ≠ 0 ∧ ∃ c' m, Steps coS coF L (coT size p []) b1 c' m ∧ c'.done = false ∧ c'.out = [] ∧ coS c' (L.drop m) = .error e2 := by rcases hcase2 with q | ⟨q, _⟩; exact q; (subst q; simp at herr2)
      obtain ⟨_, c', m', s1, s2, s3, s4⟩ := hd
      exact ⟨none, 0, 0, rfl, ⟨c', m', ⟨hst1.trans s1, .inr ⟨e2, s4⟩⟩, by rw [s3]; exact SlR.nil, Nat.zero_le _, by rw [s3]; simp, by rw [s3]; simp⟩, by simp [own], hK5.up (by omega)⟩
    · try simp only [dz, dy] at herr2
      obtain ⟨rfl, tabs, bs, rfl, hst2, hb2, htl, hok, hS2, hT, hO2, hOb⟩ : e2 = 0 ∧ ∃ tabs bs, n2 = p.t ∧ Steps coS coF L (coT size p []) b1 (coT size p tabs) (b1 + b2) ∧ b1 + b2 ≤ L.length ∧ tabs.length = p.t ∧ TabsOk size tabs ∧ SlR 244 1 (bs.map (tv size)) a2 n2 cp2 hh3.get ∧ TabR tabs bs hh3.get ∧ (∀ z ∈ own a2, cc1 + 13 ≤ z ∧ z < cc3) ∧ ∀ z ∈ bs, cc1 + 13 ≤ z ∧ z < cc3 := by rcases hcase2 with ⟨q, _⟩ | ⟨q, tabs, bs, q1, q2, q3, q4, q5, q6, q7, q8, q9⟩; (exfalso; simp at herr2; omega); exact ⟨q, tabs, bs, q1, q2, q3, q4, q5, q6, q7, fun x hx => by have := q8 x hx; omega, fun x hx => by have := q9 x hx; omega⟩
      have hS25 := hS2.move (g' := H5.get) (fun x hx => by have := hO2 x hx; exact hx5 x (by omega))
      have hT5 := hT.move (g' := H5.get) (fun x hx => by have := hOb x hx; exact hx5 x (by omega))
      have hst := hst1.trans hst2
      refine rK (kN (sg 6 rfl (qF hl rfl fa238_2 (qL hl rfl (by first | assumption | (simp only [gs]; rfl) | (simp [gs]; try rfl)) ((p3.1 _ _).trans rfl) ?_))))
      refine qF hl rfl fa242_1 (qL hl rfl (by first | assumption | (simp only [gs]; rfl) | (simp [gs]; try rfl)) ((p3.1 _ _).trans rfl) ?_)
      refine qP hl rfl rfl (by first | exact wI (by omega) | exact wU (by omega) | exact wB (by omega) | exact wL (by omega) | rfl) ?_
      refine qA hl rfl (nK (sg 1 rfl (qA hl rfl (nK (rS (rB ?_))))))
      refine rL (fun m env' s' => ∃ out at_ a cp, m = L.length - at_ ∧ Hd 75 [(0, .string (zs L)), (1, nv size), (5, ptr (c + 3)), (6, ptr (cc1 + 11)), (7, nv at_), (8, .slice a out.length cp)] env' ∧ Steps coS coF L (Co.new size) 0 (coO size p tabs out false) at_ ∧ out.length ≤ at_ ∧ at_ ≤ L.length ∧ (∀ x ∈ out, x + 1 < size) ∧ SlR 3 1 (out.map nv) a out.length cp s'.heap.get ∧ (∀ z ∈ own a, cc3 ≤ z ∧ z < s'.ctr) ∧ Keep [] H5 cc3 s') (L.length - (b1 + b2)) ?_ ?_
      · exact ⟨[], b1 + b2, none, 0, rfl, Ho hl ⟨rfl, rfl, rfl, rfl, rfl, rfl, trivial⟩, hst, Nat.zero_le _, hb2, by simp, SlR.nil, by simp [own], Keep.refl (by omega)⟩
      rintro m _ ⟨h6, c6⟩ ⟨out, at_, a, cp, rfl, ⟨env, hl, rfl⟩, hSt, hoa, hal, hos, hS, hO, hKL⟩
      dsimp only at hS hO
      have hcL := hKL.1
      dsimp only at hcL
      have hb5L := (hKL.2 (c + 3) (by omega) (by simp)).trans hb55
      have hb6L := (hKL.2 (cc1 + 11) (by omega) (by simp)).trans hb6
      have hsym := co_sym (l := L.drop at_) (size := size) (out := out) hpd htl
      have hld : (L.drop at_).length = L.length - at_ := List.length_drop
      refine rS (sg 7 rfl (qM hl rfl (q_lenL hl rfl Tryz.underlying171 (q_quo hl rfl rfl ⟨by omega, by omega⟩ (by first | exact wI (by omega) | exact wU (by omega) | exact wB (by omega) | exact wL (by omega) | rfl) ?_))))
      refine qF hl rfl fa238_0 (qL hl rfl (by first | assumption | (simp only [gs]; rfl) | (simp [gs]; try rfl)) ((p171.1 _ _).trans rfl) ?_)
      refine q_lenL hl rfl Tryz.underlying171 (qB hl rfl rfl rfl (nK ?_))
      refine rC hl rfl (fun hlt => ?_) (fun hlt => ?_)
      · try simp only [dz, dy] at hlt
        obtain ⟨pick, hpick⟩ : ∃ pick, p.picks[out.length / 50]? = some pick := ⟨_, List.getElem?_eq_getElem (by omega)⟩
        have hpt := hg.2.2.2.2.2.1 pick (List.mem_of_getElem? hpick)
        obtain ⟨tab, htab⟩ : ∃ tab, tabs[pick]? = some tab := ⟨_, List.getElem?_eq_getElem (by omega)⟩
        obtain ⟨bn, hbn⟩ : ∃ bn, bs[pick]? = some bn := ⟨_, List.getElem?_eq_getElem (by rw [hT.1]; omega)⟩
        have hbk := hT5.2 pick bn tab hbn htab
        have hbl := hOb bn (List.mem_of_getElem? hbn)
        have hbkL := (hKL.2 bn (by omega) (by simp)).trans hbk
        obtain ⟨ol1, ol2, ol3⟩ := hok tab (List.mem_of_getElem? htab)
        have hsy := hsym.2 pick tab hpick htab ol2 ol3
        obtain ⟨mb1, rfl, rfl, hmb1⟩ := hS15.pos (by omega)
        obtain ⟨mb2, rfl, rfl, hmb2⟩ := hS25.pos (by omega)
        have hmb1L := (hKL.2 mb1 (by have := hO1 mb1 (by simp [own]); omega) (by simp)).trans hmb1
        have hmb2L := (hKL.2 mb2 (by have := hO2 mb2 (by simp [own]); omega) (by simp)).trans hmb2
        refine rK (kN (rB (rS (rD [] (by decide +kernel) (by decide +kernel) (n := 12) rfl ?_))))
        refine qF hl rfl fa242_0 (qL hl rfl (by first | assumption | (simp only [gs]; rfl) | (simp [gs]; try rfl)) ((p240.1 _ _).trans rfl) ?_)
        refine qF hl rfl fa238_0 (qL hl rfl (by first | assumption | (simp only [gs]; rfl) | (simp [gs]; try rfl)) ((p171.1 _ _).trans rfl) ?_)
        refine qM hl rfl (q_lenL hl rfl Tryz.underlying171 (q_quo hl rfl rfl ⟨by omega, by omega⟩ (by first | exact wI (by omega) | exact wU (by omega) | exact wB (by omega) | exact wL (by omega) | rfl) ?_))
        refine qI hl rfl rfl e171 ⟨by omega, by omega⟩ ?_
        refine qL hl rfl (by first | assumption | (simp only [gs]; rfl) | (simp [gs]; try rfl)) ((p3.1 _ _).trans (by rw [show 0 + ((out.length : Int) / 50).toNat * 1 = out.length / 50 by omega, List.getElem?_map, hpick]; rfl)) (v := nv pick) ?_
        refine qI hl rfl rfl e240 ⟨by omega, by omega⟩ ?_
        refine qL hl rfl (by first | assumption | (simp only [gs]; rfl) | (simp [gs]; try rfl)) ((p244.1 _ _).trans (by rw [show 0 + ((pick : Nat) : Int).toNat * 1 = pick by omega, List.getElem?_map, hbn]; rfl)) (v := tv size bn) ?_
        refine qA hl rfl (ro_nild (kN (sg 6 rfl (qM hl rfl (qM hl rfl (qM hl rfl (qT (s := zl L) at_ (zl L).length hl rfl Tryz.underlying9 rfl rfl ⟨by rw [zl_len]; omega, Nat.le_refl _⟩ ?_)))))))
        rw [zl_rest]
        refine qC hl rfl (CR.mono (rGetE_cr H (cs := codesL tab) (.inr ⟨bn, rfl, rfl, hbkL, by simp [codesL, ol1], by omega⟩) (by omega)) ?_)
        rintro v ⟨hh7, cc7⟩ ⟨x, rfl, hx, rfl, hk7⟩
        dsimp only at hk7
        refine qA hl rfl (nK (rS (sg 2 rfl (qM hl rfl (qB hl rfl rfl rfl (nK ?_))))))
        refine rC hl rfl (fun hneg => ?_) (fun hneg => ?_)
        · try simp only [dz, dy] at hneg
          refine sg 2 rfl (qM hl rfl (qA hl rfl (nK (rR (kR (k_bloR (kR (k_bloR (kR (f_1 hl rfl (.inl rfl) rfl ?_))))))))))
          have hxn : x = -1 ∧ (codesL tab).findIdx? (begB (L.drop at_)) = none := by rcases hx with q | ⟨s, q, _⟩; exact q; omega
          exact ⟨a, out.length, cp, rfl, ⟨_, at_, ⟨hSt, .inr ⟨3, hsy.1 hxn.2⟩⟩, hS, by omega, fun x hx => by have := hos x hx; omega, fun i hi => by have := hos _ (List.mem_of_getElem? hi); omega⟩, fun z hz => by have := hO z hz; dsimp only; omega, (hK5.call hKL (by simp)).up (by omega)⟩
        · try simp only [dz, dy] at hneg
          obtain ⟨s, rfl, hfs⟩ : ∃ s : Nat, x = s ∧ (codesL tab).findIdx? (begB (L.drop at_)) = some s := by rcases hx with ⟨q, _⟩ | q; omega; exact q
          obtain ⟨hs1, hs2, hs3, hs4⟩ := hsy.2 s hfs
          refine rK (kN (sg 8 rfl (qM hl rfl (qM hl rfl (qM hl rfl (qI hl rfl rfl e244 ⟨by omega, by omega⟩ ?_))))))
          refine qL hl rfl (by first | assumption | (simp only [gs]; rfl) | (simp [gs]; try rfl)) ((p9.1 _ _).trans (by rw [show 0 + ((s : Nat) : Int).toNat * 1 = s by omega, List.getElem?_map, codesL_get hs1]; rfl)) (v := sv (codeB tab s)) ?_
          refine qK hl rfl Tryz.underlying9 ?_
          rw [txt_size, zl_len]
          refine qP hl rfl rfl (by first | exact wI (by omega) | exact wU (by omega) | exact wB (by omega) | exact wL (by omega) | rfl) ?_
          refine qA hl rfl (nK (sg 5 rfl (qM hl rfl (qM hl rfl (q1_ hl rfl a171 rfl (qX hl rfl rfl a171 a171 (hS.move (fun z hz => by have := hO z hz; rw [T.get_set, if_neg (by omega)])) ((T.get_set _ _ _ _).trans (if_pos rfl)) rfl (by omega) (by omega) ?_))))))
          intro a8 cp8 h8 hS8 hO8 hF8
          have hKL8 := hKL.app2 hF8 (fun z hz => .inl (hO z hz).1) (by omega) (by omega) (Nat.le_refl _)
          have hst8 := hSt.trans (.more rfl hs4 (.refl _ _))
          have e8 : (out ++ [s]).map nv = out.map nv ++ [nv s] := List.map_append
          refine qA hl rfl (nK (sg 4 rfl (qM hl rfl (qM hl rfl (q_sub hl rfl rfl (by first | exact wI (by omega) | exact wU (by omega) | exact wB (by omega) | exact wL (by omega) | rfl) ?_)))))
          refine qB hl rfl rfl rfl (nK ?_)
          refine rC hl rfl (fun hend => ?_) (fun hend => ?_)
          · try simp only [dz, dy] at hend
            refine sg 2 rfl (qM hl rfl (qA hl rfl (nK (rR (k_bloR (kR (k_bloR (kR (f_1 hl rfl (.inl rfl) rfl ?_)))))))))
            have hse : (s + 1 == size) = true := by simp; omega
            refine ⟨a8, out.length + 1, cp8, rfl, ⟨_, _, ⟨hst8, .inl hse⟩, by dsimp only; rw [e8]; exact hS8, by omega, fun x hx => ?_, fun i hi => ?_⟩, fun z hz => by have := hO8 z hz; dsimp only; omega, (hK5.call hKL8 (by simp)).up (by omega)⟩
            · rcases List.mem_append.mp hx with q | q; (have := hos x q; omega); (simp at q; omega)
            · dsimp only at hi; rcases Nat.lt_or_ge i out.length with q | q; (rw [List.getElem?_append_left q] at hi; have := hos _ (List.mem_of_getElem? hi); omega); (have := (List.getElem?_eq_some_iff.mp hi).1; rw [List.length_append] at this; simp at this; omega)
          · try simp only [dz, dy] at hend
            have hse : (s + 1 == size) = false := by simp; omega
            rw [hse] at hst8
            refine rK (kO (kN ?_))
            exact ⟨_, by omega, out ++ [s], at_ + (codeB tab s).length, a8, cp8, rfl, Ho hl ⟨rfl, rfl, rfl, rfl, rfl, by rw [List.length_append]; rfl, trivial⟩, hst8, by rw [List.length_append]; simp; omega, by omega, fun x hx => by rcases List.mem_append.mp hx with q | q; (exact hos x q); (simp at q; subst q; simp at hse; omega), by rw [e8, List.length_append]; exact hS8, fun z hz => by have := hO8 z hz; dsimp only; omega, hKL8.up (by omega)⟩
      · try simp only [dz, dy] at hlt
        refine r_exit (kE (kE (kB (kN (sg 2 rfl (qM hl rfl (qA hl rfl (nK (rR (f_1 hl rfl (.inl rfl) rfl ?_))))))))))
        exact ⟨a, out.length, cp, rfl, ⟨_, at_, ⟨hSt, .inr ⟨25, hsym.1 (by omega)⟩⟩, hS, by omega, fun x hx => by have := hos x hx; omega, fun i hi => by have := hos _ (List.mem_of_getElem? hi); omega⟩, fun z hz => by have := hO z hz; dsimp only; omega, (hK5.call hKL (by simp)).up (by omega)⟩
end
section
variable {ov : OvT} (H : OvH ov)
include H
theorem rRow_cr {h : Heap} {c size : Nat} {L : List Bool} (hL : L.length ≤ 1000000) (hz : 3 ≤ size ∧ size ≤ 258) :
    CR Tryz.prog ov 145 [.string (zs L), nv size, nv 2097152] ⟨h, c⟩ (fun v st => ∃ (a : Option Addr) (n cp bits : Nat) (held : Int) (e : Nat), v = .agg #[.slice a n cp, nv bits, iv held, nv e] ∧
      ((e ≠ 0 ∧ Runs coS coF L (Co.new size) 0 (.error e)) ∨ (e = 0 ∧ ∃ c', Runs coS coF L (Co.new size) 0 (.ok (c', bits)) ∧ c'.out.length = n ∧ n ≤ L.length ∧ bits ≤ L.length ∧ SlR 3 1 (c'.out.map nv) a n cp st.heap.get ∧ ∀ z ∈ own a, c ≤ z ∧ z < st.ctr)) ∧ Keep [] h c st) := by
  have hsz : (zs L).size = L.length := by rw [txt_size, zl_len]
  refine e_3 Tryz.func145 rfl (H _ (by decide)) Tryz.ntmps145 (by decide) ?_
  intro env hl
  refine sg 1 rfl (qZ i203 z203 rfl (nK (sg 4 rfl (qM hl rfl (qC hl rfl (CR.mono (rPicksE_cr H hL) ?_))))))
  rintro v ⟨hh1, cc1⟩ ⟨a1, n1, cp1, t, b1, to, e1, rfl, hcase, hK1⟩
  have hcc1 := hK1.1
  dsimp only at hcc1 hcase
  refine qZ i238 z238 rfl (qV hl rfl rfl (by first | assumption | (simp only [gs]; rfl) | (simp [gs]; try rfl)) p238 rfl rfl (by simp [Value.cells]) ?_)
  refine ro_gen (fun H2 hH2 => ?_)
  have hx2 : ∀ x, x ≠ c + 3 → H2.get x = hh1.get x := fun x hx => by rw [hH2]; simp only [T.get_set]; rw [if_neg (by omega), if_neg (by omega)]
  have hb5 : H2.get (c + 3) = some ⟨[.slice a1 n1 cp1, nv t, nv b1, nv to, nv e1], 238, 0⟩ := by rw [hH2, T.get_set, if_pos (by omega)]; rfl
  have hb4 : H2.get c = some ⟨[nilS, nv 0, nv 0, nv 0], 203, 0⟩ := (hx2 c (by omega)).trans ((hK1.2 c (by omega) (by simp)).trans (by rw [T.get_set, if_pos (by omega)]; rfl))
  have hK2 : Keep [] h c ⟨H2, cc1⟩ := ⟨by dsimp only; omega, fun x hx _ => (hx2 x (by omega)).trans ((hK1.2 x (by omega) (by simp)).trans (by rw [T.get_set, if_neg (by omega)]))⟩
  refine nK (rS (sg 3 rfl (qF hl rfl fa238_4 (qL hl rfl (by first | assumption | (simp only [gs]; rfl) | (simp [gs]; try rfl)) ((p3.1 _ _).trans rfl) ?_))))
  refine qB hl rfl rfl rfl (nK ?_)
  refine rC hl rfl (fun herr => ?_) (fun herr => ?_)
  · try simp only [dz, dy] at herr
    refine sg 4 rfl (qF hl rfl fa238_4 (qL hl rfl (by first | assumption | (simp only [gs]; rfl) | (simp [gs]; try rfl)) ((p3.1 _ _).trans rfl) ?_))
    refine qU hl rfl i203 z203 rfl (by simp [Program.built, Instr.fill, Tryz.underlying203, Value.cells]; rfl) ?_
    refine qV hl rfl rfl (by first | assumption | (simp only [gs]; rfl) | (simp [gs]; try rfl)) p203 rfl rfl (by simp [Value.cells]) ?_
    refine nK (rR (kR (f_c hl rfl (.inl rfl) rfl  (T.get_set _ _ _ _ |>.trans (if_pos rfl)) ((p203.1 _ _).trans rfl) ?_)))
    have hd : e1 ≠ 0 ∧ Runs Pk.step pkF L Pk.none 0 (.error e1) := by rcases hcase with q | ⟨q, _⟩; exact q; (subst q; simp at herr)
    obtain ⟨p', m', s1, s2⟩ := (co_pk (size := size) hd.2).2 e1 rfl
    exact ⟨none, 0, 0, 0, 0, e1, rfl, .inl ⟨hd.1, Steps.runs s1 (.fail rfl s2)⟩, (hK2.set (.inl (by omega))).up (by omega)⟩
  · try simp only [dz, dy] at herr
    obtain ⟨rfl, p, hRp, hg, hpd, hb1, rfl, rfl, hS1, hO1⟩ : e1 = 0 ∧ ∃ p, Runs Pk.step pkF L Pk.none 0 (.ok (p, b1)) ∧ p.good ∧ p.done = true ∧ b1 ≤ L.length ∧ n1 = p.picks.length ∧ t = p.t ∧ SlR 3 1 (p.picks.map nv) a1 n1 cp1 hh1.get ∧ ∀ z ∈ own a1, c + 5 ≤ z ∧ z < cc1 := by rcases hcase with ⟨q, _⟩ | ⟨q, d, q1, q2, q3, q4, q5, q6, q7, q8⟩; (exfalso; simp at herr; omega); exact ⟨q, d, q1, q2, q3, q4, q5, q6, q7, fun x hx => by have := q8 x hx; omega⟩
    have hst1 := (co_pk (size := size) hRp).1 p b1 rfl
    refine rK (kN (rS (rD [] (by decide +kernel) (by decide +kernel) (n := 10) rfl ?_)))
    refine qM hl rfl (qF hl rfl fa238_2 (qL hl rfl (by first | assumption | (simp only [gs]; rfl) | (simp [gs]; try rfl)) ((p3.1 _ _).trans rfl) ?_))
    refine qT (s := zl L) b1 (zl L).length hl rfl Tryz.underlying9 rfl rfl ⟨by rw [zl_len]; omega, Nat.le_refl _⟩ ?_
    rw [zl_rest]
    refine qF hl rfl fa238_1 (qL hl rfl (by first | assumption | (simp only [gs]; rfl) | (simp [gs]; try rfl)) ((p3.1 _ _).trans rfl) ?_)
    refine qM hl rfl (qC hl rfl (CR.mono (rTablesE_cr H (k := b1) (pk := p) hL hb1 hz hpd hg.2.2.1) ?_))
    rintro v ⟨hh3, cc3⟩ ⟨a2, n2, cp2, b2, e2, rfl, hcase2, hK3⟩
    have hcc3 := hK3.1
    dsimp only at hcc3 hcase2
    refine qZ i242 z242 rfl (qV hl rfl rfl (by first | assumption | (simp only [gs]; rfl) | (simp [gs]; try rfl)) p242 rfl rfl (by simp [Value.cells]) ?_)
    refine ro_gen (fun H5 hH5 => ?_)
    have hx5 : ∀ x, x ≠ cc1 + 11 → H5.get x = hh3.get x := fun x hx => by rw [hH5]; simp only [T.get_set]; rw [if_neg (by omega), if_neg (by omega)]
    have hb6 : H5.get (cc1 + 11) = some ⟨[.slice a2 n2 cp2, nv b2, nv e2], 242, 0⟩ := by rw [hH5, T.get_set, if_pos (by omega)]; rfl
    have hlow : ∀ x, x < cc1 → H5.get x = H2.get x := fun x hx => (hx5 x (by omega)).trans (hK3.2 x (by omega) (by simp))
    have hb45 := (hlow c (by omega)).trans hb4
    have hb55 := (hlow (c + 3) (by omega)).trans hb5
    have hK5 : Keep [] h c ⟨H5, cc3⟩ := ⟨by dsimp only; omega, fun x hx _ => (hlow x (by omega)).trans (hK2.2 x hx (by simp))⟩
    have hS15 := hS1.move (g' := H5.get) (fun x hx => by have := hO1 x hx; exact (hlow x (by omega)).trans (hx2 x (by omega)))
    refine ro_nild (kN (rS (sg 3 rfl (qF hl rfl fa242_2 (qL hl rfl (by first | assumption | (simp only [gs]; rfl) | (simp [gs]; try rfl)) ((p3.1 _ _).trans rfl) ?_)))))
    refine qB hl rfl rfl rfl (nK ?_)
    refine rC hl rfl (fun herr2 => ?_) (fun herr2 => ?_)
    · try simp only [dz, dy] at herr2
      refine sg 4 rfl (qF hl rfl fa242_2 (qL hl rfl (by first | assumption | (simp only [gs]; rfl) | (simp [gs]; try rfl)) ((p3.1 _ _).trans rfl) ?_))
      refine qU hl rfl i203 z203 rfl (by simp [Program.built, Instr.fill, Tryz.underlying203, Value.cells]; rfl) ?_
      refine qV hl rfl rfl (by first | assumption | (simp only [gs]; rfl) | (simp [gs]; try rfl)) p203 rfl rfl (by simp [Value.cells]) ?_
      refine nK (rR (kR (f_c hl rfl (.inl rfl) rfl  (T.get_set _ _ _ _ |>.trans (if_pos rfl)) ((p203.1 _ _).trans rfl) ?_)))
      have hd : e2 ≠ 0 ∧ ∃ c' m, Steps coS coF L (coT size p []) b1 c' m ∧ c'.done = false ∧ c'.out = [] ∧ coS c' (L.drop m) = .error e2 := by rcases hcase2 with q | ⟨q, _⟩; exact q; (subst q; simp at herr2)
      obtain ⟨c', m', s1, s2, s3, s4⟩ := hd.2
      exact ⟨none, 0, 0, 0, 0, e2, rfl, .inl ⟨hd.1, Steps.runs (hst1.trans s1) (.fail s2 s4)⟩, (hK5.set (.inl (by omega))).up (by omega)⟩
    · try simp only [dz, dy] at herr2
      obtain ⟨rfl, tabs, bs, rfl, hst2, hb2, htl, hok, hS2, hT, hO2, hOb⟩ : e2 = 0 ∧ ∃ tabs bs, n2 = p.t ∧ Steps coS coF L (coT size p []) b1 (coT size p tabs) (b1 + b2) ∧ b1 + b2 ≤ L.length ∧ tabs.length = p.t ∧ TabsOk size tabs ∧ SlR 244 1 (bs.map (tv size)) a2 n2 cp2 hh3.get ∧ TabR tabs bs hh3.get ∧ (∀ z ∈ own a2, cc1 + 13 ≤ z ∧ z < cc3) ∧ ∀ z ∈ bs, cc1 + 13 ≤ z ∧ z < cc3 := by rcases hcase2 with ⟨q, _⟩ | ⟨q, tabs, bs, q1, q2, q3, q4, q5, q6, q7, q8, q9⟩; (exfalso; simp at herr2; omega); exact ⟨q, tabs, bs, q1, q2, q3, q4, q5, q6, q7, fun x hx => by have := q8 x hx; omega, fun x hx => by have := q9 x hx; omega⟩
      have hS25 := hS2.move (g' := H5.get) (fun x hx => by have := hO2 x hx; exact hx5 x (by omega))
      have hT5 := hT.move (g' := H5.get) (fun x hx => by have := hOb x hx; exact hx5 x (by omega))
      have hst := hst1.trans hst2
      refine rK (kN (sg 6 rfl (qF hl rfl fa238_2 (qL hl rfl (by first | assumption | (simp only [gs]; rfl) | (simp [gs]; try rfl)) ((p3.1 _ _).trans rfl) ?_))))
      refine qF hl rfl fa242_1 (qL hl rfl (by first | assumption | (simp only [gs]; rfl) | (simp [gs]; try rfl)) ((p3.1 _ _).trans rfl) ?_)
      refine qP hl rfl rfl (by first | exact wI (by omega) | exact wU (by omega) | exact wB (by omega) | exact wL (by omega) | rfl) ?_
      refine qA hl rfl (nK (sg 1 rfl (qA hl rfl (nK (rB ?_)))))
      refine rL (fun m env' s' => ∃ out at_ a cp, m = L.length - at_ ∧ Hd 98 [(0, .string (zs L)), (1, nv size), (2, nv 2097152), (6, ptr c), (7, ptr (c + 3)), (8, ptr (cc1 + 11)), (9, nv at_), (10, .slice a out.length cp)] env' ∧ Steps coS coF L (Co.new size) 0 (coO size p tabs out false) at_ ∧ out.length ≤ at_ ∧ at_ ≤ L.length ∧ (∀ x ∈ out, x + 1 < size) ∧ SlR 3 1 (out.map nv) a out.length cp s'.heap.get ∧ (∀ z ∈ own a, cc3 ≤ z ∧ z < s'.ctr) ∧ Keep [] H5 cc3 s') (L.length - (b1 + b2)) ?_ ?_
      · exact ⟨[], b1 + b2, none, 0, rfl, Ho hl ⟨rfl, rfl, rfl, rfl, rfl, rfl, rfl, rfl, trivial⟩, hst, Nat.zero_le _, hb2, by simp, SlR.nil, by simp [own], Keep.refl (by omega)⟩
      rintro m _ ⟨h6, c6⟩ ⟨out, at_, a, cp, rfl, ⟨env, hl, rfl⟩, hSt, hoa, hal, hos, hS, hO, hKL⟩
      dsimp only at hS hO
      have hcL := hKL.1
      dsimp only at hcL
      have hb5L := (hKL.2 (c + 3) (by omega) (by simp)).trans hb55
      have hb4L := (hKL.2 c (by omega) (by simp)).trans hb45
      have hb6L := (hKL.2 (cc1 + 11) (by omega) (by simp)).trans hb6
      have hsym := co_sym (l := L.drop at_) (size := size) (out := out) hpd htl
      have hld : (L.drop at_).length = L.length - at_ := List.length_drop
      refine rB (rS (sg 7 rfl (qM hl rfl (q_lenL hl rfl Tryz.underlying171 (q_quo hl rfl rfl ⟨by omega, by omega⟩ (by first | exact wI (by omega) | exact wU (by omega) | exact wB (by omega) | exact wL (by omega) | rfl) ?_)))))
      refine qF hl rfl fa238_0 (qL hl rfl (by first | assumption | (simp only [gs]; rfl) | (simp [gs]; try rfl)) ((p171.1 _ _).trans rfl) ?_)
      refine q_lenL hl rfl Tryz.underlying171 (qB hl rfl rfl rfl (nK ?_))
      refine rC hl rfl (fun hge => ?_) (fun hge => ?_)
      · try simp only [dz, dy] at hge
        refine sg 2 rfl (qU hl rfl i203 z203 rfl (by simp [Program.built, Instr.fill, Tryz.underlying203, Value.cells]; rfl) ?_)
        refine qV hl rfl rfl (by first | assumption | (simp only [gs]; rfl) | (simp [gs]; try rfl)) p203 rfl rfl (by simp [Value.cells]) ?_
        refine nK (rR (kR (k_bloR (kR (k_bloR (f_c hl rfl (.inl rfl) rfl  (T.get_set _ _ _ _ |>.trans (if_pos rfl)) ((p203.1 _ _).trans rfl) ?_))))))
        exact ⟨none, 0, 0, 0, 0, 25, rfl, .inl ⟨by decide, Steps.runs hSt (.fail rfl (hsym.1 (by omega)))⟩, ((hK5.call hKL (by simp)).set (.inl (by omega))).up (by omega)⟩
      · try simp only [dz, dy] at hge
        obtain ⟨pick, hpick⟩ : ∃ pick, p.picks[out.length / 50]? = some pick := ⟨_, List.getElem?_eq_getElem (by omega)⟩
        have hpt := hg.2.2.2.2.2.1 pick (List.mem_of_getElem? hpick)
        obtain ⟨tab, htab⟩ : ∃ tab, tabs[pick]? = some tab := ⟨_, List.getElem?_eq_getElem (by omega)⟩
        obtain ⟨bn, hbn⟩ : ∃ bn, bs[pick]? = some bn := ⟨_, List.getElem?_eq_getElem (by rw [hT.1]; omega)⟩
        have hbk := hT5.2 pick bn tab hbn htab
        have hbl := hOb bn (List.mem_of_getElem? hbn)
        have hbkL := (hKL.2 bn (by omega) (by simp)).trans hbk
        obtain ⟨ol1, ol2, ol3⟩ := hok tab (List.mem_of_getElem? htab)
        have hsy := hsym.2 pick tab hpick htab ol2 ol3
        obtain ⟨mb1, rfl, rfl, hmb1⟩ := hS15.pos (by omega)
        obtain ⟨mb2, rfl, rfl, hmb2⟩ := hS25.pos (by omega)
        have hmb1L := (hKL.2 mb1 (by have := hO1 mb1 (by simp [own]); omega) (by simp)).trans hmb1
        have hmb2L := (hKL.2 mb2 (by have := hO2 mb2 (by simp [own]); omega) (by simp)).trans hmb2
        refine rK (kN (rS (rD [] (by decide +kernel) (by decide +kernel) (n := 12) rfl ?_)))
        refine qF hl rfl fa242_0 (qL hl rfl (by first | assumption | (simp only [gs]; rfl) | (simp [gs]; try rfl)) ((p240.1 _ _).trans rfl) ?_)
        refine qF hl rfl fa238_0 (qL hl rfl (by first | assumption | (simp only [gs]; rfl) | (simp [gs]; try rfl)) ((p171.1 _ _).trans rfl) ?_)
        refine qM hl rfl (q_lenL hl rfl Tryz.underlying171 (q_quo hl rfl rfl ⟨by omega, by omega⟩ (by first | exact wI (by omega) | exact wU (by omega) | exact wB (by omega) | exact wL (by omega) | rfl) ?_))
        refine qI hl rfl rfl e171 ⟨by omega, by omega⟩ ?_
        refine qL hl rfl (by first | assumption | (simp only [gs]; rfl) | (simp [gs]; try rfl)) ((p3.1 _ _).trans (by rw [show 0 + ((out.length : Int) / 50).toNat * 1 = out.length / 50 by omega, List.getElem?_map, hpick]; rfl)) (v := nv pick) ?_
        refine qI hl rfl rfl e240 ⟨by omega, by omega⟩ ?_
        refine qL hl rfl (by first | assumption | (simp only [gs]; rfl) | (simp [gs]; try rfl)) ((p244.1 _ _).trans (by rw [show 0 + ((pick : Nat) : Int).toNat * 1 = pick by omega, List.getElem?_map, hbn]; rfl)) (v := tv size bn) ?_
        refine qA hl rfl (ro_nild (kN (sg 6 rfl (qM hl rfl (qM hl rfl (qM hl rfl (qT (s := zl L) at_ (zl L).length hl rfl Tryz.underlying9 rfl rfl ⟨by rw [zl_len]; omega, Nat.le_refl _⟩ ?_)))))))
        rw [zl_rest]
        refine qC hl rfl (CR.mono (rGetE_cr H (cs := codesL tab) (.inr ⟨bn, rfl, rfl, hbkL, by simp [codesL, ol1], by omega⟩) (by omega)) ?_)
        rintro v ⟨hh7, cc7⟩ ⟨x, rfl, hx, rfl, hk7⟩
        dsimp only at hk7
        refine qA hl rfl (nK (rS (sg 2 rfl (qM hl rfl (qB hl rfl rfl rfl (nK ?_))))))
        refine rC hl rfl (fun hneg => ?_) (fun hneg => ?_)
        · try simp only [dz, dy] at hneg
          refine sg 2 rfl (qU hl rfl i203 z203 rfl (by simp [Program.built, Instr.fill, Tryz.underlying203, Value.cells]; rfl) ?_)
          refine qV hl rfl rfl (by first | assumption | (simp only [gs]; rfl) | (simp [gs]; try rfl)) p203 rfl rfl (by simp [Value.cells]) ?_
          refine nK (rR (kR (k_bloR (kR (k_bloR (f_c hl rfl (.inl rfl) rfl  (T.get_set _ _ _ _ |>.trans (if_pos rfl)) ((p203.1 _ _).trans rfl) ?_))))))
          have hxn : x = -1 ∧ (codesL tab).findIdx? (begB (L.drop at_)) = none := by rcases hx with q | ⟨s, q, _⟩; exact q; omega
          exact ⟨none, 0, 0, 0, 0, 3, rfl, .inl ⟨by decide, Steps.runs hSt (.fail rfl (hsy.1 hxn.2))⟩, ((hK5.call hKL (by simp)).set (.inl (by omega))).up (by omega)⟩
        · try simp only [dz, dy] at hneg
          have hpl : p.picks.length < 32768 := by have := hg.2.2.2.2.1; have := hg.2.2.2.1; omega
          have hmul : p.t * size ≤ 6 * 258 := Nat.mul_le_mul hg.2.2.1 hz.2
          obtain ⟨s, rfl, hfs⟩ : ∃ s : Nat, x = s ∧ (codesL tab).findIdx? (begB (L.drop at_)) = some s := by rcases hx with ⟨q, _⟩ | q; omega; exact q
          obtain ⟨hs1, hs2, hs3, hs4⟩ := hsy.2 s hfs
          refine rK (kN (rS (sg 4 rfl (qM hl rfl (q_lenL hl rfl Tryz.underlying171 (qM hl rfl (qB hl rfl rfl rfl (nK (rF hl rfl (by first | rfl | (simp only [dz]; omega) | (simp; done) | (simp; omega)) ?_)))))))))
          refine rK (kN (sg 8 rfl (qM hl rfl (qM hl rfl (qM hl rfl (qI hl rfl rfl e244 ⟨by omega, by omega⟩ ?_))))))
          refine qL hl rfl (by first | assumption | (simp only [gs]; rfl) | (simp [gs]; try rfl)) ((p9.1 _ _).trans (by rw [show 0 + ((s : Nat) : Int).toNat * 1 = s by omega, List.getElem?_map, codesL_get hs1]; rfl)) (v := sv (codeB tab s)) ?_
          refine qK hl rfl Tryz.underlying9 ?_
          rw [txt_size, zl_len]
          refine qP hl rfl rfl (by first | exact wI (by omega) | exact wU (by omega) | exact wB (by omega) | exact wL (by omega) | rfl) ?_
          refine qA hl rfl (nK (sg 5 rfl (qM hl rfl (qM hl rfl (q1_ hl rfl a171 rfl (qX hl rfl rfl a171 a171 (hS.move (fun z hz => by have := hO z hz; rw [T.get_set, if_neg (by omega)])) ((T.get_set _ _ _ _).trans (if_pos rfl)) rfl (by omega) (by omega) ?_))))))
          intro a8 cp8 h8 hS8 hO8 hF8
          have hKL8 := hKL.app2 hF8 (fun z hz => .inl (hO z hz).1) (by omega) (by omega) (Nat.le_refl _)
          have hst8 := hSt.trans (.more rfl hs4 (.refl _ _))
          have e8 : (out ++ [s]).map nv = out.map nv ++ [nv s] := List.map_append
          refine qA hl rfl (nK (sg 4 rfl ?_))
          have hb4L := (hF8 c (by omega) (fun m => by have := hO c m; omega)).trans ((T.get_set _ _ _ _).trans ((if_neg (by omega)).trans hb4L))
          have hb5L := (hF8 (c + 3) (by omega) (fun m => by have := hO _ m; omega)).trans ((T.get_set _ _ _ _).trans ((if_neg (by omega)).trans hb5L))
          have hsl : s + 1 ≤ size := by omega
          refine qM hl rfl (qM hl rfl (q_sub hl rfl rfl (by first | exact wI (by omega) | exact wU (by omega) | exact wB (by omega) | exact wL (by omega) | rfl) ?_))
          refine qB hl rfl rfl rfl (nK ?_)
          refine rC hl rfl (fun hend => ?_) (fun hend => ?_)
          · try simp only [dz, dy] at hend
            refine sg 12 rfl (qM hl rfl (qM hl rfl (qF hl rfl fa238_0 (qL hl rfl (by first | assumption | (simp only [gs]; rfl) | (simp [gs]; try rfl)) ((p171.1 _ _).trans rfl) ?_))))
            refine q_lenL hl rfl Tryz.underlying171 (qF hl rfl fa238_1 (qL hl rfl (by first | assumption | (simp only [gs]; rfl) | (simp [gs]; try rfl)) ((p3.1 _ _).trans rfl) ?_))
            refine qM hl rfl (q_mul hl rfl rfl (m := ((p.t * size : Nat) : Int)) (by rw [← Int.natCast_mul]; exact wrapI (by omega) (by omega)) ?_)
            refine qP hl rfl rfl (by first | exact wI (by omega) | exact wU (by omega) | exact wB (by omega) | exact wL (by omega) | rfl) ?_
            refine qU hl rfl i203 z203 rfl (by simp [Program.built, Instr.fill, Tryz.underlying203, Value.cells]; rfl) ?_
            refine qV hl rfl rfl (by first | assumption | (simp only [gs]; rfl) | (simp [gs]; try rfl)) p203 rfl rfl (by simp [Value.cells]) ?_
            refine nK (rR (k_bloR (kR (k_bloR (f_c hl rfl (.inl rfl) rfl  (T.get_set _ _ _ _ |>.trans (if_pos rfl)) ((p203.1 _ _).trans rfl) ?_)))))
            have hse : (s + 1 == size) = true := by simp; omega
            have hc8 : cc3 ≤ cc7 := by omega
            exact ⟨a8, out.length + 1, cp8, at_ + (codeB tab s).length, _, 0, rfl, .inr ⟨rfl, _, Steps.runs hst8 (.stop hse), by simp, by omega, by omega, by rw [e8]; exact hS8.move (fun z hz => by have := hO8 z hz; dsimp only; rw [T.get_set, if_neg (by omega)]), fun z hz => by have := hO8 z hz; dsimp only; omega⟩, ((hK5.call hKL8 (by simp)).set (.inl (by omega))).up (by omega)⟩
          · try simp only [dz, dy] at hend
            have hse : (s + 1 == size) = false := by simp; omega
            rw [hse] at hst8
            refine rK (kO (kN ?_))
            exact ⟨_, by omega, out ++ [s], at_ + (codeB tab s).length, a8, cp8, rfl, Ho hl ⟨rfl, rfl, rfl, rfl, rfl, rfl, rfl, by rw [List.length_append]; rfl, trivial⟩, hst8, by rw [List.length_append]; simp; omega, by omega, fun x hx => by rcases List.mem_append.mp hx with q | q; (exact hos x q); (simp at q; subst q; simp at hse; omega), by rw [e8, List.length_append]; exact hS8, fun z hz => by have := hO8 z hz; dsimp only; omega, hKL8.up (by omega)⟩
end
def moveR {S : Type} (k : Nat) : Except Nat (S × Nat) → Except Nat (S × Nat)
  | .ok (t, m) => .ok (t, k + m)
  | .error e => .error e
theorem Runs.shift {S : Type} {step : S → List Bool → Except Nat (S × Nat)} {fin : S → List Bool → Bool} {l : List Bool} {k n : Nat} {s : S} {r : Except Nat (S × Nat)} (h : Runs step fin (l.drop k) s n r) : Runs step fin l s (k + n) (moveR k r) := by
  have hdd : ∀ m, (l.drop k).drop m = l.drop (k + m) := fun m => List.drop_drop ..
  induction h with
  | stop h => exact .stop (by rw [← hdd]; exact h)
  | fail h q => exact .fail (by rw [← hdd]; exact h) (by rw [← hdd]; exact q)
  | more h q m ih => exact .more (by rw [← hdd]; exact h) (by rw [← hdd]; exact q) (by rw [Nat.add_assoc]; exact ih)
theorem put_lt {z z' : Ze} {s d p : Nat} (h1 : 1 ≤ z.n) (hs : s ≤ z.n + 1) (h : z.put s = .ok (z', d, p)) : p < z.n ∧ z'.n = z.n ∧ z.told + d + (if 0 < p then 1 else 0) = z'.told ∧ (s = z.n + 1 → z'.done = true) := by
  simp only [Ze.put] at h
  split at h
  · split at h
    · cases h
    · cases h; exact ⟨by omega, rfl, by simp, fun q => by omega⟩
  · split at h
    · cases h; exact ⟨by omega, rfl, by simp, fun _ => rfl⟩
    · split at h
      · cases h
      · cases h; exact ⟨by omega, rfl, by dsimp only; rw [if_pos (by omega)], fun q => by omega⟩
theorem putsL_facts : ∀ {l : List Nat} {z z' : Ze} {ps : List Nat}, putsL z l = some (z', ps) → z.good → (∀ x ∈ l, x ≤ z.n + 1) → (∀ x ∈ ps, x < z.n) ∧ z'.n = z.n ∧ z'.most = z.most ∧ z.told + ps.length = z'.told ∧ z'.good
  | [], z, z', ps, h, hg, _ => by simp only [putsL, Option.some.injEq, Prod.mk.injEq] at h; obtain ⟨rfl, rfl⟩ := h; exact ⟨by simp, rfl, rfl, rfl, hg⟩
  | s :: l, z, z', ps, h, hg, hx => by
    simp only [putsL] at h
    cases hp : z.put s with
    | error e => rw [hp] at h; cases h
    | ok y =>
      obtain ⟨z1, d, p⟩ := y
      rw [hp] at h
      simp only at h
      have hl := put_lt hg.1 (hx s (by simp)) hp
      have hg1 := Ze.put_good hg hp
      cases hq : putsL z1 l with
      | none => rw [hq] at h; cases h
      | some w =>
        obtain ⟨z2, ps2⟩ := w
        rw [hq] at h
        simp only [Option.map_some, Option.some.injEq, Prod.mk.injEq] at h
        obtain ⟨rfl, rfl⟩ := h
        obtain ⟨i1, i2, i3, i4, i5⟩ := putsL_facts hq hg1.1 (fun x q => by rw [hl.2.1]; exact hx x (by simp [q]))
        refine ⟨fun x hx => ?_, by rw [i2, hl.2.1], by rw [i3, hg1.2.2], ?_, i5⟩
        · rcases List.mem_append.mp hx with q | q
          · simp only [places, List.mem_append, List.mem_replicate] at q
            rcases q with q | q
            · have := hg.1; omega
            · split at q
              · simp only [List.mem_singleton] at q; omega
              · simp at q
          · have := i1 x q; omega
        · rw [← i4, ← hl.2.2.1, List.length_append]; simp only [places, List.length_append, List.length_replicate]; split <;> simp <;> omega
theorem putsL_last {a : List Nat} {x : Nat} {z z' : Ze} {ps : List Nat} (h : putsL z (a ++ [x]) = some (z', ps)) (hg : z.good) (hx : ∀ y ∈ a ++ [x], y ≤ z.n + 1) (he : x = z.n + 1) : z'.done = true := by
  rw [putsL_snoc] at h
  cases hq : putsL z a with
  | none => rw [hq] at h; cases h
  | some w =>
    obtain ⟨z1, p1⟩ := w
    rw [hq] at h
    simp only [Option.bind_some] at h
    have hf := putsL_facts hq hg (fun y q => hx y (by simp [q]))
    cases hp : z1.put x with
    | error e => rw [hp] at h; cases h
    | ok y =>
      obtain ⟨z2, d, p⟩ := y
      rw [hp] at h; cases h
      exact (put_lt hf.2.2.2.2.1 (by rw [hf.2.1]; omega) hp).2.2.2 (by rw [hf.2.1]; exact he)
theorem dec6_mem : ∀ {l o : List Nat}, (∀ x ∈ l, x < o.length) → ∀ x ∈ (dec6 l o).1, x ∈ o
  | [], o, _ => by simp [dec6]
  | p :: l, o, h => by
    have hp := h p (by simp)
    have hm : (moved o p).length = o.length := moved_len hp
    intro x hx
    simp only [dec6, List.mem_cons] at hx
    rcases hx with q | q
    · rw [q, List.getD_eq_getElem?_getD, List.getElem?_eq_getElem hp]; exact List.getElem_mem hp
    · exact moved_mem hp (dec6_mem (fun x q => by rw [hm]; exact h x (by simp [q])) x q)
theorem co_done {L : List Bool} {c t : Co} {n m : Nat} (h : Steps coS coF L c n t m) : t.size = c.size ∧ ((c.done = true → ∃ a x, c.out = a ++ [x] ∧ x + 1 = c.size) → t.done = true → ∃ a x, t.out = a ++ [x] ∧ x + 1 = t.size) := by
  induction h with
  | refl => exact ⟨rfl, fun q => q⟩
  | @more c c' t n k m h q r ih =>
    simp only [coF] at h
    simp only [coS] at q
    split at q
    · cases q
    · rename_i c1 o k1 hs
      cases q
      have hok := Co.step_ok hs
      refine ⟨by rw [ih.1, hok.1], fun _ => ih.2 (fun hd => ?_)⟩
      cases o with
      | none => rw [hok.2.1, h] at hd; cases hd
      | some s => rw [hok.2.1] at hd; exact ⟨c.out, s, hok.2.2, by rw [hok.1]; simpa using hd⟩
theorem of_short {L : List Bool} {room : Nat} (h : L.length < 57) : Runs Bl.step blF L (Bl.new room) 0 (.error 3) := by
  refine .fail rfl ?_
  simp only [Bl.step, Bl.go, Bl.new, List.drop_zero, Bool.not_false, if_true]; rw [if_pos h]
theorem of_rand {L : List Bool} {room : Nat} (h : ¬ L.length < 57) (h2 : L[32]? = some true) : Runs Bl.step blF L (Bl.new room) 0 (.error 25) := by
  have e : (L.drop 32).take 1 = [true] := by rw [drop_cons h2]; rfl
  refine .fail rfl ?_
  simp only [Bl.step, Bl.go, Bl.new, List.drop_zero, Bool.not_false, if_true]; rw [if_neg h, if_pos e]
section
variable {L : List Bool} {room : Nat} (h : ¬ L.length < 57) (h2 : L[32]? = some false)
include h h2
theorem of_head {r : Except Nat (Bl × Nat)} (k : Runs Bl.step blF L ⟨room, true, num (L.take 32), num ((L.drop 33).take 24), [], none, false⟩ 57 r) : Runs Bl.step blF L (Bl.new room) 0 r := by
  have e : (L.drop 32).take 1 ≠ [true] := by rw [drop_cons h2]; simp
  refine .more rfl (k := 57) (s' := ⟨room, true, num (L.take 32), num ((L.drop 33).take 24), [], none, false⟩) ?_ k
  simp only [Bl.step, Bl.go, Bl.new, List.drop_zero, Bool.not_false, if_true]; rw [if_neg h, if_neg e]; rfl
theorem of_used {e : Nat} (hu : usedR (L.drop 57) = .error e) : Runs Bl.step blF L (Bl.new room) 0 (.error e) := by
  refine of_head h h2 (.fail rfl ?_)
  simp only [Bl.step, Bl.go, Bool.not_true, Bool.false_eq_true, if_false, hu]; rfl
theorem of_law {s : List Nat} {n m : Nat} {rc : Except Nat (Co × Nat)} {c' : Co} (hu : usedR (L.drop 57) = .ok (s, n)) (hrc : Runs coS coF (L.drop (57 + n)) (Co.new (s.length + 2)) 0 rc) (hl : Last coS coF (L.drop (57 + n)) (Co.new (s.length + 2)) 0 c' m) :
    (putsL (Ze.new s.length room) c'.out = none → Runs Bl.step blF L (Bl.new room) 0 (.error 25)) ∧
    (putsL (Ze.new s.length room) c'.out ≠ none → (∀ e, rc = .error e → Runs Bl.step blF L (Bl.new room) 0 (.error e)) ∧
      ∀ c2 m2, rc = .ok (c2, m2) → c2 = c' ∧ c'.done = true ∧ ∀ z ps, putsL (Ze.new s.length room) c'.out = some (z, ps) →
        ((dec6 ps s).1.length ≤ num ((L.drop 33).take 24) → Runs Bl.step blF L (Bl.new room) 0 (.error 23)) ∧
        (num ((L.drop 33).take 24) < (dec6 ps s).1.length → ∃ b, Runs Bl.step blF L (Bl.new room) 0 (.ok (b, 57 + n + m2)) ∧ b.last = (dec6 ps s).1 ∧ b.from_ = num ((L.drop 33).take 24) ∧ b.sum = num (L.take 32))) := by
  obtain ⟨r, hR, c3, m3, hl3, hcase⟩ := row_law (room := room) (sum := num (L.take 32)) (from_ := num ((L.drop 33).take 24)) (z0 := Ze.new s.length room) (s0 := s) hrc (Ze.new s.length room) [] rfl
  obtain ⟨rfl, rfl⟩ := hl3.det hl
  have hf : (blAt room (num (L.take 32)) (num ((L.drop 33).take 24)) (Co.new (s.length + 2)) (Ze.new s.length room) (dec6 [] s).2 (dec6 [] s).1).fin = .ok (blAt room (num (L.take 32)) (num ((L.drop 33).take 24)) (Co.new (s.length + 2)) (Ze.new s.length room) (dec6 [] s).2 (dec6 [] s).1) := rfl
  simp only [RunB, hf] at hR
  have hS := hR.shift
  have hall : Runs Bl.step blF L (Bl.new room) 0 (moveR (57 + n) r) := by
    refine of_head h h2 (.more rfl (k := n) (s' := blAt room (num (L.take 32)) (num ((L.drop 33).take 24)) (Co.new (s.length + 2)) (Ze.new s.length room) (dec6 [] s).2 (dec6 [] s).1) ?_ hS)
    simp only [Bl.step, Bl.go, Bool.not_true, Bool.false_eq_true, if_false, hu]; rfl
  rcases hcase with ⟨q1, q2⟩ | ⟨q1, e, q2, q3⟩ | ⟨z', ps', q1, q2, q3⟩
  · subst q2; exact ⟨fun _ => hall, fun q => absurd q1 q⟩
  · subst q3
    refine ⟨fun q => absurd q q1, fun _ => ⟨fun e' w => ?_, fun c2 m2 w => ?_⟩⟩
    · rw [q2] at w; cases w; exact hall
    · rw [q2] at w; cases w
  · refine ⟨fun q => (by rw [q2] at q; cases q), fun _ => ⟨fun e' w => (by rw [q1] at w; cases w), fun c2 m2 w => ?_⟩⟩
    rw [q1] at w; cases w
    have hdn : c3.done = true := by
      obtain ⟨t, u, w1, w2⟩ := hrc.last
      rcases w2 with ⟨w2, w3⟩ | ⟨e, w2, _⟩
      · rw [q1] at w2; cases w2; exact w3
      · rw [q1] at w2; cases w2
    refine ⟨rfl, hdn, fun z ps hz => ?_⟩
    rw [q2] at hz; cases hz
    refine ⟨fun hle => ?_, fun hlt => ?_⟩
    · rw [if_pos hle] at q3; subst q3; exact hall
    · rw [if_neg (by omega)] at q3; subst q3; exact ⟨_, hall, rfl, rfl, rfl⟩
end
theorem all2 {p q : Nat × Nat} {F : Nat × Nat → Prop} (h1 : F p) (h2 : F q) : ∀ x ∈ [p, q], F x := by
  intro x hx; simp only [List.mem_cons, List.not_mem_nil, or_false] at hx; rcases hx with rfl | rfl; exact h1; exact h2
section
variable {ov : OvT} (H : OvH ov)
include H
theorem rUsedE_cr {h : Heap} {c : Nat} {L : List Bool} (hL : L.length ≤ 1000000) :
    CR Tryz.prog ov 144 [.string (zs L)] ⟨h, c⟩ (fun v st => ∃ (s : List Nat) (n e : Nat), v = .agg #[.string (txt s), nv n, nv e] ∧ ((e ≠ 0 ∧ usedR L = .error e) ∨ (e = 0 ∧ usedR L = .ok (s, n))) ∧ Keep [] h c st) := by
  refine (rUsed_cr H hL).mono ?_
  rintro v st ⟨q, k⟩
  cases hu : usedR L with
  | error e =>
    rw [hu] at q
    refine ⟨[], 0, e, q, .inl ⟨?_, rfl⟩, k⟩
    simp only [usedR] at hu
    repeat' split at hu
    all_goals first | (cases hu; decide) | (cases hu; done)
  | ok y => obtain ⟨s, n⟩ := y; rw [hu] at q; exact ⟨s, n, 0, q, .inr ⟨rfl, rfl⟩, k⟩
theorem rBlk_cr {h : Heap} {c room : Nat} {L : List Bool} (hL : L.length ≤ 1000000) (hr : 5 ≤ room ∧ room ≤ 900000) :
    CR Tryz.prog ov 111 [.string (zs L), nv room] ⟨h, c⟩ (fun v st => ∃ (last : List Nat) (o sum bits : Nat) (held : Int) (e : Nat), v = .agg #[.string (txt last), nv o, uv sum, nv bits, iv held, nv e] ∧
      ((e ≠ 0 ∧ Runs Bl.step blF L (Bl.new room) 0 (.error e)) ∨ (e = 0 ∧ ∃ b, Runs Bl.step blF L (Bl.new room) 0 (.ok (b, bits)) ∧ b.last = last ∧ b.from_ = o ∧ b.sum = sum ∧ o < last.length ∧ (∀ x ∈ last, x < 256) ∧ last.length ≤ room ∧ sum < 4294967296 ∧ bits ≤ L.length)) ∧ Keep [] h c st) := by
  have hsz : (zs L).size = L.length := by rw [txt_size, zl_len]
  have hK0 : Keep [] h c ⟨h.set c ⟨[nostr, nv 0, uv 0, nv 0, nv 0, nv 0], 160, 0⟩, c⟩ := (Keep.refl (Nat.le_refl c)).set (.inl (by omega))
  have e32 := num_lt (L.take 32)
  have e24 := num_lt ((L.drop 33).take 24)
  refine e_2 Tryz.func111 rfl (H _ (by decide)) Tryz.ntmps111 (by decide) ?_
  intro env hl
  refine sg 1 rfl (qZ i160 z160 rfl (nK (rS (sg 3 rfl (qM hl rfl (qK hl rfl Tryz.underlying9 ?_))))))
  rw [hsz]
  refine qB hl rfl rfl rfl (nK ?_)
  refine rC hl rfl (fun h57 => ?_) (fun h57 => ?_)
  · try simp only [dz, dy] at h57
    refine sg 2 rfl (qU hl rfl i160 z160 rfl (by simp [Program.built, Instr.fill, Tryz.underlying160, Value.cells]; rfl) ?_)
    refine qV hl rfl rfl (by first | assumption | (simp only [gs]; rfl) | (simp [gs]; try rfl)) p160 rfl rfl (by simp [Value.cells]) ?_
    refine nK (rR (kR (f_c hl rfl (.inl rfl) rfl  (T.get_set _ _ _ _ |>.trans (if_pos rfl)) ((p160.1 _ _).trans rfl) ?_)))
    exact ⟨[], 0, 0, 0, 0, 3, rfl, .inl ⟨by decide, of_short (by omega)⟩, (hK0.set (.inl (by omega))).up (by omega)⟩
  · try simp only [dz, dy] at h57
    rw [List.length_take, Nat.min_eq_left (by omega)] at e32
    rw [List.length_take, List.length_drop, Nat.min_eq_left (by omega)] at e24
    obtain ⟨t32, ht32⟩ : ∃ t, L[32]? = some t := ⟨_, List.getElem?_eq_getElem (by omega)⟩
    refine rK (kN (rS (sg 3 rfl (qM hl rfl (qJ hl rfl rfl Tryz.underlying9 (by omega) (txt_get (zl_get ht32)) ?_)))))
    simp only [zb_nat]
    refine qB hl rfl rfl rfl (nK ?_)
    refine rC hl rfl (fun h49 => ?_) (fun h49 => ?_)
    · try simp only [dz, dy] at h49
      have htt : t32 = true := by cases t32 with | true => rfl | false => (simp at h49)
      subst htt
      refine sg 2 rfl (qU hl rfl i160 z160 rfl (by simp [Program.built, Instr.fill, Tryz.underlying160, Value.cells]; rfl) ?_)
      refine qV hl rfl rfl (by first | assumption | (simp only [gs]; rfl) | (simp [gs]; try rfl)) p160 rfl rfl (by simp [Value.cells]) ?_
      refine nK (rR (kR (f_c hl rfl (.inl rfl) rfl  (T.get_set _ _ _ _ |>.trans (if_pos rfl)) ((p160.1 _ _).trans rfl) ?_)))
      exact ⟨[], 0, 0, 0, 0, 25, rfl, .inl ⟨by decide, of_rand (by omega) ht32⟩, (hK0.set (.inl (by omega))).up (by omega)⟩
    · try simp only [dz, dy] at h49
      have htt : t32 = false := by cases t32 with | false => rfl | true => (simp at h49)
      subst htt
      have h57' : ¬ L.length < 57 := by omega
      refine rK (kN (sg 5 rfl (qM hl rfl (qT (s := zl L) 57 (zl L).length hl rfl Tryz.underlying9 rfl rfl ⟨by rw [zl_len]; omega, Nat.le_refl _⟩ ?_))))
      rw [zl_rest]
      refine qC hl rfl (CR.mono (rUsedE_cr H (L := L.drop 57) (by rw [List.length_drop]; omega)) ?_)
      rintro v ⟨hh1, cc1⟩ ⟨s, n, e1, rfl, hcase, hK1⟩
      have hcc1 := hK1.1
      dsimp only at hcc1 hcase
      refine qZ i200 z200 rfl (qV hl rfl rfl (by first | assumption | (simp only [gs]; rfl) | (simp [gs]; try rfl)) p200 rfl rfl (by simp [Value.cells]) ?_)
      refine ro_gen (fun H2 hH2 => ?_)
      have hx2 : ∀ x, x ≠ c + 10 → H2.get x = hh1.get x := fun x hx => by rw [hH2]; simp only [T.get_set]; rw [if_neg (by omega), if_neg (by omega)]
      have hb5 : H2.get (c + 10) = some ⟨[.string (txt s), nv n, nv e1], 200, 0⟩ := by rw [hH2, T.get_set, if_pos (by omega)]; rfl
      have hb4 : H2.get c = some ⟨[nostr, nv 0, uv 0, nv 0, nv 0, nv 0], 160, 0⟩ := (hx2 c (by omega)).trans ((hK1.2 c (by omega) (by simp)).trans (by rw [T.get_set, if_pos (by omega)]; rfl))
      have hK2 : Keep [] h c ⟨H2, cc1⟩ := ⟨by dsimp only; omega, fun x hx _ => (hx2 x (by omega)).trans ((hK1.2 x (by omega) (by simp)).trans (by rw [T.get_set, if_neg (by omega)]))⟩
      refine nK (rS (sg 3 rfl (qF hl rfl fa200_2 (qL hl rfl (by first | assumption | (simp only [gs]; rfl) | (simp [gs]; try rfl)) ((p3.1 _ _).trans rfl) ?_))))
      refine qB hl rfl rfl rfl (nK ?_)
      refine rC hl rfl (fun herr => ?_) (fun herr => ?_)
      · try simp only [dz, dy] at herr
        refine sg 4 rfl (qF hl rfl fa200_2 (qL hl rfl (by first | assumption | (simp only [gs]; rfl) | (simp [gs]; try rfl)) ((p3.1 _ _).trans rfl) ?_))
        refine qU hl rfl i160 z160 rfl (by simp [Program.built, Instr.fill, Tryz.underlying160, Value.cells]; rfl) ?_
        refine qV hl rfl rfl (by first | assumption | (simp only [gs]; rfl) | (simp [gs]; try rfl)) p160 rfl rfl (by simp [Value.cells]) ?_
        refine nK (rR (kR (f_c hl rfl (.inl rfl) rfl  (T.get_set _ _ _ _ |>.trans (if_pos rfl)) ((p160.1 _ _).trans rfl) ?_)))
        have hd : e1 ≠ 0 ∧ usedR (L.drop 57) = .error e1 := by rcases hcase with q | ⟨q, _⟩; exact q; (subst q; simp at herr)
        exact ⟨[], 0, 0, 0, 0, e1, rfl, .inl ⟨hd.1, of_used h57' ht32 hd.2⟩, (hK2.set (.inl (by omega))).up (by omega)⟩
      · try simp only [dz, dy] at herr
        obtain ⟨rfl, hu⟩ : e1 = 0 ∧ usedR (L.drop 57) = .ok (s, n) := by rcases hcase with ⟨q, _⟩ | q; (exfalso; simp at herr; omega); exact q
        obtain ⟨hsA, hs256, hsne, hsl, hn0, hnl⟩ := usedR_ok hu
        rw [List.length_drop] at hnl
        have hspos : 0 < s.length := by cases s with | nil => exact absurd rfl hsne | cons a s => simp
        refine rK (kN (sg 4 rfl (qF hl rfl fa200_0 (qL hl rfl (by first | assumption | (simp only [gs]; rfl) | (simp [gs]; try rfl)) ((p9.1 _ _).trans rfl) ?_))))
        refine qK hl rfl Tryz.underlying9 ?_
        rw [txt_size]
        refine qA hl rfl (nK (sg 4 rfl (qF hl rfl fa200_1 (qL hl rfl (by first | assumption | (simp only [gs]; rfl) | (simp [gs]; try rfl)) ((p3.1 _ _).trans rfl) ?_))))
        refine qP hl rfl rfl (by first | exact wI (by omega) | exact wU (by omega) | exact wB (by omega) | exact wL (by omega) | rfl) ?_
        refine qA hl rfl (nK (sg 8 rfl (qM hl rfl (qM hl rfl (qT (s := zl L) (57 + n) (zl L).length hl rfl Tryz.underlying9 rfl rfl ⟨by rw [zl_len]; omega, Nat.le_refl _⟩ ?_)))))
        rw [zl_rest]
        refine qM hl rfl (qP hl rfl rfl (by first | exact wI (by omega) | exact wU (by omega) | exact wB (by omega) | exact wL (by omega) | rfl) ?_)
        refine qC hl rfl (CR.mono (rRow_cr H (L := L.drop (57 + n)) (size := s.length + 2) (by rw [List.length_drop]; omega) (by omega)) ?_)
        rintro v ⟨hh3, cc3⟩ ⟨a2, n2, cp2, b2, held, e2, rfl, hcase2, hK3⟩
        have hcc3 := hK3.1
        dsimp only at hcc3 hcase2
        refine qZ i203 z203 rfl (qV hl rfl rfl (by first | assumption | (simp only [gs]; rfl) | (simp [gs]; try rfl)) p203 rfl rfl (by simp [Value.cells]) ?_)
        refine ro_gen (fun H5 hH5 => ?_)
        have hx5 : ∀ x, x ≠ cc1 + 17 → H5.get x = hh3.get x := fun x hx => by rw [hH5]; simp only [T.get_set]; rw [if_neg (by omega), if_neg (by omega)]
        have hb8 : H5.get (cc1 + 17) = some ⟨[.slice a2 n2 cp2, nv b2, iv held, nv e2], 203, 0⟩ := by rw [hH5, T.get_set, if_pos (by omega)]; rfl
        have hlow : ∀ x, x < cc1 → H5.get x = H2.get x := fun x hx => (hx5 x (by omega)).trans (hK3.2 x (by omega) (by simp))
        have hb55 := (hlow (c + 10) (by omega)).trans hb5
        have hb45 := (hlow c (by omega)).trans hb4
        have hK5 : Keep [] h c ⟨H5, cc3⟩ := ⟨by dsimp only; omega, fun x hx _ => (hlow x (by omega)).trans (hK2.2 x hx (by simp))⟩
        refine nK (rS (sg 10 rfl (qM hl rfl (qM hl rfl (qT (s := zl L) (57 + n) (zl L).length hl rfl Tryz.underlying9 rfl rfl ⟨by rw [zl_len]; omega, Nat.le_refl _⟩ ?_)))))
        rw [zl_rest]
        refine qM hl rfl (qP hl rfl rfl (by first | exact wI (by omega) | exact wU (by omega) | exact wB (by omega) | exact wL (by omega) | rfl) ?_)
        refine qC hl rfl (CR.mono (rSome_cr H (L := L.drop (57 + n)) (size := s.length + 2) (by rw [List.length_drop]; omega) (by omega)) ?_)
        rintro v ⟨hh6, cc6⟩ ⟨a3, n3, cp3, rfl, ⟨c', m', hLast, hS3, hn3, hlt3, hend3⟩, hO3, hK6⟩
        have hcc6 := hK6.1
        dsimp only at hcc6 hS3 hO3
        rw [List.length_drop] at hn3
        refine qM hl rfl (qM hl rfl (qC hl rfl (CR.mono (rCodes_cr H (N := s.length) (room := room) hS3 (fun z hz => (hO3 z hz).2) (by omega) (by omega) (by omega) (fun x hx => by have := hlt3 x hx; omega) hend3) ?_)))
        rintro v ⟨hh7, cc7⟩ ⟨⟨e7, rfl, he7⟩, hK7⟩
        have hcc7 := hK7.1
        dsimp only at hcc7
        have hlow7 : ∀ x, x < cc3 → hh7.get x = H5.get x := fun x hx => (hK7.2 x (by omega) (by simp)).trans (hK6.2 x (by omega) (by simp))
        have hb87 := (hlow7 (cc1 + 17) (by omega)).trans hb8
        have hb57 := (hlow7 (c + 10) (by omega)).trans hb55
        have hb47 := (hlow7 c (by omega)).trans hb45
        have hK77 : Keep [] h c ⟨hh7, cc7⟩ := ⟨by dsimp only; omega, fun x hx _ => (hlow7 x (by omega)).trans (hK5.2 x hx (by simp))⟩
        refine qB hl rfl rfl rfl (nK ?_)
        refine rC hl rfl (fun hcod => ?_) (fun hcod => ?_)
        · try simp only [dz, dy] at hcod
          refine sg 2 rfl (qU hl rfl i160 z160 rfl (by simp [Program.built, Instr.fill, Tryz.underlying160, Value.cells]; rfl) ?_)
          refine qV hl rfl rfl (by first | assumption | (simp only [gs]; rfl) | (simp [gs]; try rfl)) p160 rfl rfl (by simp [Value.cells]) ?_
          refine nK (rR (kR (f_c hl rfl (.inl rfl) rfl  (T.get_set _ _ _ _ |>.trans (if_pos rfl)) ((p160.1 _ _).trans rfl) ?_)))
          have hno : putsL (Ze.new s.length room) c'.out = none := by by_cases q : putsL (Ze.new s.length room) c'.out = none; exact q; (have := he7.mpr q; subst this; simp at hcod)
          have hlaw : Runs Bl.step blF L (Bl.new room) 0 (.error 25) := by rcases hcase2 with ⟨_, q⟩ | ⟨_, c2, q, _⟩; exact (of_law h57' ht32 hu q hLast).1 hno; exact (of_law h57' ht32 hu q hLast).1 hno
          exact ⟨[], 0, 0, 0, 0, 25, rfl, .inl ⟨by decide, hlaw⟩, (hK77.set (.inl (by omega))).up (by omega)⟩
        · try simp only [dz, dy] at hcod
          have hok7 : putsL (Ze.new s.length room) c'.out ≠ none := he7.mp (by simp at hcod; omega)
          refine rK (kN (rS (sg 3 rfl (qF hl rfl fa203_3 (qL hl rfl (by first | assumption | (simp only [gs]; rfl) | (simp [gs]; try rfl)) ((p3.1 _ _).trans rfl) ?_)))))
          refine qB hl rfl rfl rfl (nK ?_)
          refine rC hl rfl (fun herr2 => ?_) (fun herr2 => ?_)
          · try simp only [dz, dy] at herr2
            refine sg 4 rfl (qF hl rfl fa203_3 (qL hl rfl (by first | assumption | (simp only [gs]; rfl) | (simp [gs]; try rfl)) ((p3.1 _ _).trans rfl) ?_))
            refine qU hl rfl i160 z160 rfl (by simp [Program.built, Instr.fill, Tryz.underlying160, Value.cells]; rfl) ?_
            refine qV hl rfl rfl (by first | assumption | (simp only [gs]; rfl) | (simp [gs]; try rfl)) p160 rfl rfl (by simp [Value.cells]) ?_
            refine nK (rR (kR (f_c hl rfl (.inl rfl) rfl  (T.get_set _ _ _ _ |>.trans (if_pos rfl)) ((p160.1 _ _).trans rfl) ?_)))
            have hd : e2 ≠ 0 ∧ Runs coS coF (L.drop (57 + n)) (Co.new (s.length + 2)) 0 (.error e2) := by rcases hcase2 with q | ⟨q, _⟩; exact q; (subst q; simp at herr2)
            exact ⟨[], 0, 0, 0, 0, e2, rfl, .inl ⟨hd.1, ((of_law h57' ht32 hu hd.2 hLast).2 hok7).1 e2 rfl⟩, (hK77.set (.inl (by omega))).up (by omega)⟩
          · try simp only [dz, dy] at herr2
            obtain ⟨rfl, c2, hRc, hcl, hn2, hb2, hS2, hO2⟩ : e2 = 0 ∧ ∃ c2, Runs coS coF (L.drop (57 + n)) (Co.new (s.length + 2)) 0 (.ok (c2, b2)) ∧ c2.out.length = n2 ∧ n2 ≤ (L.drop (57 + n)).length ∧ b2 ≤ (L.drop (57 + n)).length ∧ SlR 3 1 (c2.out.map nv) a2 n2 cp2 hh3.get ∧ ∀ z ∈ own a2, cc1 + 19 ≤ z ∧ z < cc3 := by rcases hcase2 with ⟨q, _⟩ | ⟨q, c2, q1, q2, q3, q4, q5, q6⟩; (exfalso; simp at herr2; omega); exact ⟨q, c2, q1, q2, q3, q4, q5, fun x hx => by have := q6 x hx; omega⟩
            clear hcase2
            rw [List.length_drop] at hn2 hb2
            have hn32 : c'.out.length = n3 := by have := hS3.len; simpa using this
            obtain ⟨rfl, hcd, hlw⟩ := ((of_law h57' ht32 hu hRc hLast).2 hok7).2 c2 b2 rfl
            obtain ⟨⟨z, ps⟩, hzp⟩ := Option.ne_none_iff_exists'.mp hok7
            have hgz : (Ze.new s.length room).good := ⟨by dsimp only [Ze.new]; omega, hsl, by dsimp only [Ze.new]; omega, by dsimp only [Ze.new]; omega, by dsimp only [Ze.new]; omega⟩
            obtain ⟨f1, f2, f3, f4, f5⟩ := putsL_facts hzp hgz (fun x hx => by have := hlt3 x hx; dsimp only [Ze.new]; omega)
            obtain ⟨al, xl, hal, hxl⟩ := (co_done hLast.1).2 (fun q => absurd q (by simp [Co.new])) hcd
            rw [(co_done hLast.1).1] at hxl
            have hzd : z.done = true := by rw [hal] at hzp; exact putsL_last hzp hgz (fun y q => by have := hlt3 y (by rw [hal]; exact q); dsimp only [Ze.new]; omega) (by dsimp only [Ze.new, Co.new] at *; omega)
            have hS27 := hS2.move (g' := hh7.get) (fun x hx => by have := hO2 x hx; exact (hlow7 x (by omega)).trans (hx5 x (by omega)))
            refine rK (kN (sg 10 rfl (qF hl rfl fa203_0 (qL hl rfl (by first | assumption | (simp only [gs]; rfl) | (simp [gs]; try rfl)) ((p171.1 _ _).trans rfl) ?_))))
            refine qM hl rfl (qM hl rfl (qC hl rfl (CR.mono (rDecode7_cr H (N := s.length) (room := room) hS27 (fun z hz => by have := hO2 z hz; omega) (by omega) (by omega) (by omega) (fun x hx => by have := hlt3 x hx; omega) (fun i hi => by have := hend3 i hi; omega) hzp hzd) ?_)))
            rintro v ⟨hh8, cc8⟩ ⟨⟨a8, cp8, rfl, hS8, hO8⟩, hK8⟩
            have hcc8 := hK8.1
            dsimp only at hcc8 hS8 hO8
            refine qM hl rfl (qE hl rfl rfl (qE hl rfl rfl (qA hl rfl (qA hl rfl (nK (sg 9 rfl (qM hl rfl (qF hl rfl fa200_0 ?_))))))))
            have hlow8 : ∀ x, x < cc7 → hh8.get x = hh7.get x := fun x hx => hK8.2 x (by omega) (by simp)
            have hb88 := (hlow8 (cc1 + 17) (by omega)).trans hb87
            have hb58 := (hlow8 (c + 10) (by omega)).trans hb57
            have hb48 := (hlow8 c (by omega)).trans hb47
            have hps : ps.length ≤ room := by have := f5.2.2.2.1; have e0 : (Ze.new s.length room).told = 0 := rfl; have e1 : (Ze.new s.length room).most = room := rfl; omega
            refine qL hl rfl (by first | assumption | (simp only [gs]; rfl) | (simp [gs]; try rfl)) ((p9.1 _ _).trans rfl) ?_
            refine qC hl rfl (CR.mono (rDec6_cr H hS8 (fun z hz => by have := hO8 z hz; omega) hsA hs256 hsne hsl (by omega) f1) ?_)
            rintro v ⟨hh9, cc9⟩ ⟨rfl, hK9⟩
            refine qM hl rfl ?_
            have hcc9 := hK9.1
            dsimp only at hcc9
            have hlow9 : ∀ x, x < cc7 → hh9.get x = hh8.get x := fun x hx => hK9.2 x (by omega) (by simp)
            have hb89 := (hlow9 (cc1 + 17) (by omega)).trans hb88
            have hb49 := (hlow9 c (by omega)).trans hb48
            have hK99 : Keep [] h c ⟨hh9, cc9⟩ := ⟨by dsimp only; omega, fun x hx _ => (hlow9 x (by omega)).trans ((hlow8 x (by omega)).trans (hK77.2 x hx (by simp)))⟩
            have hdl := (dec6_len f1).1
            refine qE hl rfl rfl (qE hl rfl rfl (qA hl rfl (qA hl rfl (nK (sg 5 rfl (qM hl rfl (qT (s := zl L) 33 57 hl rfl Tryz.underlying9 rfl rfl ⟨by omega, by rw [zl_len]; omega⟩ ?_)))))))
            rw [zl_sub]
            refine qC hl rfl (CR.mono (rNumber_cr H (L := (L.drop 33).take 24) (by rw [List.length_take]; omega)) ?_)
            rintro v ⟨hh10, cc10⟩ ⟨rfl, rfl, hk10⟩
            dsimp only at hk10
            refine qH hl rfl Tryz.underlying38 Tryz.underlying3 (by first | exact wI (by omega) | exact wU (by omega) | exact wB (by omega) | exact wL (by omega) | rfl) ?_
            refine qA hl rfl (nK (rS (sg 4 rfl (qM hl rfl (qM hl rfl (qK hl rfl Tryz.underlying9 ?_))))))
            rw [txt_size]
            refine qB hl rfl rfl rfl (nK ?_)
            refine rC hl rfl (fun horig => ?_) (fun horig => ?_)
            · try simp only [dz, dy] at horig
              refine sg 2 rfl (qU hl rfl i160 z160 rfl (by simp [Program.built, Instr.fill, Tryz.underlying160, Value.cells]; rfl) ?_)
              refine qV hl rfl rfl (by first | assumption | (simp only [gs]; rfl) | (simp [gs]; try rfl)) p160 rfl rfl (by simp [Value.cells]) ?_
              refine nK (rR (kR (f_c hl rfl (.inl rfl) rfl  (T.get_set _ _ _ _ |>.trans (if_pos rfl)) ((p160.1 _ _).trans rfl) ?_)))
              exact ⟨[], 0, 0, 0, 0, 23, rfl, .inl ⟨by decide, (hlw z ps hzp).1 (by omega)⟩, (hK99.set (.inl (by omega))).up (by omega)⟩
            · try simp only [dz, dy] at horig
              refine rK (kN (rS (rD [(8, 0), (11, 0)] (by decide +kernel) (by decide +kernel) (n := 17) rfl ?_)))
              refine qM hl rfl (qM hl rfl (qM hl rfl (qT (s := zl L) 0 32 hl rfl Tryz.underlying9 rfl rfl ⟨by omega, by rw [zl_len]; omega⟩ ?_)))
              rw [zl_sub, List.drop_zero]
              refine qC hl rfl (CR.mono (rNumber_cr H (L := L.take 32) (by rw [List.length_take]; omega)) ?_)
              rintro v ⟨hh11, cc11⟩ ⟨rfl, rfl, hk11⟩
              dsimp only at hk11
              refine qU hl rfl i49 z49 rfl (by simp [Program.built, Instr.fill, Tryz.underlying49, Value.cells]; rfl) ?_
              refine qM hl rfl (qF hl rfl fa203_1 (qL hl rfl (by first | assumption | (simp only [gs]; rfl) | (simp [gs]; try rfl)) ((p3.1 _ _).trans rfl) ?_))
              refine qP hl rfl rfl (by first | exact wI (by omega) | exact wU (by omega) | exact wB (by omega) | exact wL (by omega) | rfl) ?_
              refine qF hl rfl fa203_2 (qL hl rfl (by first | assumption | (simp only [gs]; rfl) | (simp [gs]; try rfl)) ((p3.1 _ _).trans rfl) ?_)
              refine qM hl rfl (qK hl rfl Tryz.underlying9 ?_)
              rw [txt_size]
              refine qP hl rfl rfl rfl (qU hl rfl i160 z160 rfl (by simp [Program.built, Instr.fill, Tryz.underlying160, Value.cells]; rfl) ?_)
              refine qV hl rfl rfl (by first | assumption | (simp only [gs]; rfl) | (simp [gs]; try rfl)) p160 rfl rfl (by simp [Value.cells]) ?_
              refine ro_nilp ?_ ?_
              · exact all2 (pair_load hl rfl rfl rfl rfl ((heapAt_old rfl (by omega)).trans hb89) ((p3.1 _ _).trans rfl) rfl (same_int _ _)) (pair_load hl rfl rfl rfl rfl ((heapAt_old rfl (by omega)).trans hb89) ((p3.1 _ _).trans rfl) rfl (same_int _ _))
              refine kN (rR (f_c hl rfl (.inl rfl) rfl  (T.get_set _ _ _ _ |>.trans (if_pos rfl)) ((p160.1 _ _).trans rfl) ?_))
              obtain ⟨b, hRb, hb1, hb2', hb3⟩ := (hlw z ps hzp).2 (by omega)
              exact ⟨(dec6 ps s).1, _, _, 57 + n + b2, _, 0, rfl, .inr ⟨rfl, b, hRb, hb1, hb2', hb3, by omega, fun x hx => hs256 x (dec6_mem f1 x hx), by omega, by omega, by omega⟩, (hK99.set (.inl (by omega))).up (by omega)⟩
end
end Go.Proofs.YtegjkhgaoabfcaaGreat
namespace Go.AE
section
variable {P : Program} {ov : OvT} {ops : Array Oper} {c0 d n : Nat} {ty : TypeId} {pos : String} {after : Array Edge} {l : List Oper} {i : Nat} {env : Env} {w : List (Nat × Value)} {h : Heap} {c : Nat} {sn : List (Nat × Heap)} {md : Heap} {Q : RS → Prop}
theorem q_skipU {op : Op} {g gd : Nat} {wv : Bool} {og : Oper} (hl : env.length = n) (hw : wild op = false) (hg : ops[g]? = some og) (hd : og.dst = some gd) (hv : lk n w gd = some undef)
    (k : RO P ov ops c0 l (i + 1) ⟨E env ((d, undef) :: w), ⟨h, c⟩, sn, md⟩ Q) : RO P ov ops c0 (⟨some d, op, ty, pos, after, some (g, wv)⟩ :: l) i ⟨E env w, ⟨h, c⟩, sn, md⟩ Q :=
  ro_skip hw (by simp [Region.wanted, yieldedA, hg, hd, lk_get hl hv, undef]) k
theorem q_skipUW {op : Op} {g gd : Nat} {wv : Bool} {og : Oper} (hl : env.length = n) (hw : wild op = true) (hg : ops[g]? = some og) (hd : og.dst = some gd) (hv : lk n w gd = some undef)
    (k : RO P ov ops c0 l (i + 1) ⟨E env ((d, undef) :: w), ⟨h, c⟩, (i + 1, h) :: sn, md⟩ Q) : RO P ov ops c0 (⟨some d, op, ty, pos, after, some (g, wv)⟩ :: l) i ⟨E env w, ⟨h, c⟩, sn, md⟩ Q :=
  RO_skip ops c0 _ l i _ Q (by simp [Region.wanted, yieldedA, hg, hd, lk_get hl hv, undef]) (by simp only [hw, if_true]; exact k)
end
end Go.AE
namespace Go.Proofs.YtegjkhgaoabfcaaGreat
open Go.AE
theorem crcCom_lt (x b : Nat) (hb : b < 4294967296) : crcCom x b < 4294967296 ∨ 4294967296 ≤ x := by
  rcases Nat.lt_or_ge x 4294967296 with q | q
  · left
    simp only [crcCom]
    exact Nat.xor_lt_two_pow (n := 32) (Nat.xor_lt_two_pow (n := 32) (by omega) (by omega)) hb
  · exact .inr q
theorem crcAll_lt : ∀ (l : List Nat) {x : Nat}, x < 4294967296 → (∀ y ∈ l, y < 4294967296) → l.foldl crcCom x < 4294967296
  | [], _, h, _ => h
  | y :: l, x, h, hy => crcAll_lt l (by rcases crcCom_lt x y (hy y (by simp)) with q | q; exact q; omega) (fun z hz => hy z (by simp [hz]))
theorem begR_ok {l : List Bool} (h : begR l 4 0 = 0) : 32 ≤ l.length ∧ 49 ≤ num ((l.drop 24).take 8) ∧ num ((l.drop 24).take 8) ≤ 57 := by
  have hs : ∀ f i, begR l (f + 1) i = 0 → 8 * i + 8 ≤ l.length ∧ (i < 3 → begR l f (i + 1) = 0) ∧ (¬ i < 3 → 49 ≤ num ((l.drop (8 * i)).take 8) ∧ num ((l.drop (8 * i)).take 8) ≤ 57) := by
    intro f i h
    simp only [begR] at h
    split at h
    · cases h
    · split at h
      · split at h
        · cases h
        · exact ⟨by omega, fun _ => h, fun q => by omega⟩
      · split at h
        · cases h
        · exact ⟨by omega, fun q => by omega, fun _ => by omega⟩
  have h3 := (hs 0 3 ((hs 1 2 ((hs 2 1 ((hs 3 0 h).2.1 (by omega))).2.1 (by omega))).2.1 (by omega)))
  exact ⟨h3.1, h3.2.2 (by omega)⟩
theorem want_get {i : Nat} (h : i < 3) : ((bitsL [66, 90, 104]).drop (8 * i)).take 8 = bitsN 8 ([66, 90, 104].getD i 0) ∧ [66, 90, 104].getD i 0 < 256 := by
  rcases (by omega : i = 0 ∨ i = 1 ∨ i = 2) with q | q | q <;> subst q <;> exact ⟨by decide +kernel, by decide⟩
theorem num8 {l : List Bool} (h : 8 ≤ l.length) (v : Nat) (hv : v < 256) : (l.take 8 == bitsN 8 v) = (num (l.take 8) == v) := by
  have e : (l.take 8).length = 8 := by rw [List.length_take]; omega
  rw [Bool.eq_iff_iff]; simp only [beq_iff_eq]
  constructor
  · intro q; rw [q, num_bitsN, Nat.mod_eq_of_lt hv]
  · intro q; have := bitsN_num (l.take 8); rw [e, q] at this; exact this.symm
section
variable {ov : OvT} (H : OvH ov)
include H
theorem rStream_cr {h : Heap} {c n cp : Nat} {l : List Nat} {a : Option Addr} (hS : SlR 38 1 (l.map uv) a n cp h.get) (hn : n ≤ 1000000) (hx : ∀ x ∈ l, x < 4294967296) :
    CR Tryz.prog ov 34 [.slice a n cp] ⟨h, c⟩ (fun v st => v = uv (l.foldl crcCom 0) ∧ Same h c st) := by
  have hln : l.length = n := by have := hS.len; simpa using this
  refine e_1 Tryz.func34 rfl (H _ (by decide)) Tryz.ntmps34 (by decide) ?_
  intro env hl
  refine sg 1 rfl (qA hl rfl (nK (sg 1 rfl (qA hl rfl (nK (rS (sg 3 rfl (qM hl rfl (q_lenL hl rfl Tryz.underlying63 (qM hl rfl (nK (rB ?_))))))))))))
  refine rL (fun m env' s' => ∃ j, m = n - j ∧ j ≤ n ∧ Hd 17 [(6, .slice a n cp), (7, nv n), (8, nv j), (3, uv ((l.take j).foldl crcCom 0))] env' ∧ s'.heap = h ∧ c ≤ s'.ctr) n ?_ ?_
  · exact ⟨0, rfl, Nat.zero_le _, Ho hl ⟨rfl, rfl, rfl, rfl, trivial⟩, rfl, by dsimp only; omega⟩
  rintro m _ ⟨h2, c2⟩ ⟨j, rfl, hj, ⟨env, hl, rfl⟩, he, hc2⟩
  dsimp only at he hc2
  subst he
  refine sg 1 rfl (qB hl rfl rfl rfl (nK (rS ?_)))
  refine rC hl rfl (fun hjn => ?_) (fun hjn => ?_)
  · try simp only [dz, dy] at hjn
    obtain ⟨x, hx1⟩ : ∃ x, l[j]? = some x := ⟨_, List.getElem?_eq_getElem (by omega)⟩
    have hx2 := hx x (List.mem_of_getElem? hx1)
    obtain ⟨mb, rfl, rfl, hmb⟩ := hS.pos (by omega)
    have htk : (l.take (j + 1)).foldl crcCom 0 = crcCom ((l.take j).foldl crcCom 0) x := by rw [List.take_add_one, hx1]; simp
    have hlt := crcAll_lt (l.take j) (x := 0) (by omega) (fun y hy => hx y (List.mem_of_mem_take hy))
    refine rK (kN (rS (rB (sg 3 rfl (qI hl rfl rfl e63 ⟨by omega, by omega⟩ ?_)))))
    refine qL hl rfl (by assumption) ((p38.1 _ _).trans (by simp [hx1])) (v := uv x) ?_
    refine qA hl rfl (nK (rg 4 rfl (qM hl rfl (qM hl rfl (qC hl rfl (CR.mono (rCombine_cr H hlt hx2) ?_))))))
    rintro v ⟨hh1, cc1⟩ ⟨rfl, rfl, hk⟩
    try dsimp only at hk
    refine qA hl rfl (rN (kO (kN (rg 2 rfl (qP hl rfl rfl (by first | exact wI (by omega) | exact wU (by omega) | exact wB (by omega) | exact wL (by omega) | rfl) ?_)))))
    refine qM hl rfl (nK ?_)
    exact ⟨n - (j + 1), by omega, j + 1, rfl, by omega, Ho hl ⟨rfl, rfl, rfl, by rw [htk]; rfl, trivial⟩, rfl, by dsimp only at *; omega⟩
  · try simp only [dz, dy] at hjn
    refine r_exit (kE (kE (kB (kN (sg 2 rfl (qM hl rfl (qA hl rfl (nK (rR (f_1 hl rfl (.inl rfl) rfl ?_))))))))))
    have ej : j = n := by omega
    subst ej
    rw [List.take_of_length_le (by omega)]
    exact ⟨rfl, rfl, by dsimp only; omega⟩
theorem rBegins22_cr {h : Heap} {c : Nat} {M : List Bool} (hM : M.length ≤ 1000000) :
    CR Tryz.prog ov 67 [.string (zs M)] ⟨h, c⟩ (fun v st => v = nv (begR M 4 0) ∧ Same h c st) := by
  have hsz : (zs M).size = M.length := by rw [txt_size, zl_len]
  have hwl : (zl (bitsL [66, 90, 104])).length = 24 := by rw [zl_len, bitsL_length]; rfl
  refine e_1 Tryz.func67 rfl (H _ (by decide)) Tryz.ntmps67 (by decide) ?_
  intro env hl
  refine sg 1 rfl (qA hl rfl (nK (sg 2 rfl (qC hl rfl (CR.mono (rBits_cr H (by decide)) ?_)))))
  rintro v ⟨hh1, cc1⟩ ⟨rfl, rfl, hk⟩
  try dsimp only at hk
  refine qA hl rfl (nK (rS (sg 1 rfl (qM hl rfl (nK (rB ?_))))))
  refine rL (fun m env' s' => ∃ i, m = 4 - i ∧ i ≤ 4 ∧ Hd 49 [(0, .string (zs M)), (3, .string (zs (bitsL [66, 90, 104]))), (7, nv i)] env' ∧ begR M 4 0 = begR M (4 - i) i ∧ s'.heap = h ∧ c ≤ s'.ctr) 4 ?_ ?_
  · exact ⟨0, rfl, Nat.zero_le _, Ho hl ⟨rfl, rfl, rfl, trivial⟩, rfl, rfl, by dsimp only at *; omega⟩
  rintro m _ ⟨h2, c2⟩ ⟨i, rfl, hi, ⟨env, hl, rfl⟩, hbe, he, hc2⟩
  dsimp only at he hc2
  subst he
  refine sg 1 rfl (qB hl rfl rfl rfl (nK (rS ?_)))
  refine rC hl rfl (fun hi4 => ?_) (fun hi4 => ?_)
  · try simp only [dz, dy] at hi4
    have hb1 : begR M (4 - i) i = if M.length < 8 * i + 8 then 24 else if i < 3 then (if num ((M.drop (8 * i)).take 8) ≠ [66, 90, 104].getD i 0 then 20 else begR M (4 - (i + 1)) (i + 1)) else if num ((M.drop (8 * i)).take 8) < 49 ∨ 57 < num ((M.drop (8 * i)).take 8) then 20 else begR M (4 - (i + 1)) (i + 1) := by rw [show 4 - i = (4 - (i + 1)) + 1 by omega]; rfl
    refine rK (kN (rS (rB (sg 2 rfl (qM hl rfl (qA hl rfl (nK (rS (sg 6 rfl (qM hl rfl (qK hl rfl Tryz.underlying9 ?_)))))))))))
    rw [hsz]
    refine qM hl rfl (q_mul hl rfl rfl (by first | exact wI (by omega) | exact wU (by omega) | exact wB (by omega) | exact wL (by omega) | rfl) ?_)
    refine qP hl rfl rfl (by first | exact wI (by omega) | exact wU (by omega) | exact wB (by omega) | exact wL (by omega) | rfl) ?_
    refine qB hl rfl rfl rfl (nK ?_)
    refine rC hl rfl (fun h24 => ?_) (fun h24 => ?_)
    · try simp only [dz, dy] at h24
      refine sg 1 rfl (qA hl rfl (nK (rR (kR (k_bloR (kR (kR (k_bloR (kR (f_1 hl rfl (.inl rfl) rfl ?_))))))))))
      rw [hbe, hb1, if_pos (by omega)]
      exact ⟨rfl, rfl, by dsimp only; omega⟩
    · try simp only [dz, dy] at h24
      rw [if_neg (by omega)] at hb1
      have hl8 : 8 ≤ (M.drop (8 * i)).length := by rw [List.length_drop]; omega
      refine rK (kN (sg 8 rfl (qM hl rfl (qM hl rfl (q_mul hl rfl rfl (by first | exact wI (by omega) | exact wU (by omega) | exact wB (by omega) | exact wL (by omega) | rfl) ?_)))))
      refine qM hl rfl (q_mul hl rfl rfl (by first | exact wI (by omega) | exact wU (by omega) | exact wB (by omega) | exact wL (by omega) | rfl) ?_)
      refine qP hl rfl rfl (by first | exact wI (by omega) | exact wU (by omega) | exact wB (by omega) | exact wL (by omega) | rfl) ?_
      refine qT (s := zl M) (8 * i) (8 * i + 8) hl rfl Tryz.underlying9 rfl rfl ⟨by omega, by rw [zl_len]; omega⟩ ?_
      rw [zl_sub, show 8 * i + 8 - 8 * i = 8 by omega]
      refine qA hl rfl (nK (rS (sg 13 rfl (qM hl rfl (qB hl rfl rfl rfl (qM hl rfl ?_))))))
      refine q_case hl (rfl : lk _ _ 25 = _) (fun h3 => ?_) (fun h3 => ?_)
      · have h3_ := h3
        try simp only [dz] at h3_
        have hi3 : i < 3 := by omega
        obtain ⟨w1, w2⟩ := want_get hi3
        rw [if_pos hi3] at hb1
        refine qG hl rfl rfl rfl h3 (qM hl rfl (qG hl rfl rfl rfl h3 (qM hl rfl (qG hl rfl rfl rfl h3 (qM hl rfl (qG hl rfl rfl rfl h3 (q_mul hl rfl rfl (by first | exact wI (by omega) | exact wU (by omega) | exact wB (by omega) | exact wL (by omega) | rfl) ?_)))))))
        refine qG hl rfl rfl rfl h3 (qM hl rfl (qG hl rfl rfl rfl h3 (q_mul hl rfl rfl (by first | exact wI (by omega) | exact wU (by omega) | exact wB (by omega) | exact wL (by omega) | rfl) ?_)))
        refine qG hl rfl rfl rfl h3 (qP hl rfl rfl (by first | exact wI (by omega) | exact wU (by omega) | exact wB (by omega) | exact wL (by omega) | rfl) ?_)
        refine qG hl rfl rfl rfl h3 (qT (s := zl (bitsL [66, 90, 104])) (8 * i) (8 * i + 8) hl rfl Tryz.underlying9 rfl rfl ⟨by omega, by rw [hwl]; omega⟩ ?_)
        refine qG hl rfl rfl rfl h3 ?_
        rw [zl_sub, show 8 * i + 8 - 8 * i = 8 by omega, w1]
        refine qB hl rfl rfl (v := .bool !(num ((M.drop (8 * i)).take 8) == [66, 90, 104].getD i 0)) (congrArg (fun b => some (Value.bool !b)) ((zs_eq _ _).trans (num8 hl8 _ w2))) (qQ hl rfl rfl rfl (if_pos h3) (nK ?_))
        refine rC hl rfl (fun hne => ?_) (fun hne => ?_)
        · try simp only [dz, dy] at hne
          refine sg 1 rfl (qA hl rfl (nK (rR (kR (k_bloR (kR (kR (k_bloR (kR (f_1 hl rfl (.inl rfl) rfl ?_))))))))))
          rw [hbe, hb1, if_pos (by simpa using hne)]
          exact ⟨rfl, rfl, by dsimp only; omega⟩
        · try simp only [dz, dy] at hne
          rw [if_neg (by simpa using hne)] at hb1
          have h33 : ((i : Int) == 3) = false := by simp; omega
          refine rK (kN (sg 12 rfl (qM hl rfl (qB hl rfl rfl rfl (qM hl rfl (qS hl rfl rfl rfl rfl (by rw [h33]; decide) ?_))))))
          refine q_skipW hl rfl rfl rfl rfl (by rw [h33]; decide) ?_
          refine qS hl rfl rfl rfl rfl (by rw [h33]; decide) ?_
          refine qS hl rfl rfl rfl rfl (by rw [h33]; decide) ?_
          refine q_skipU hl rfl rfl rfl rfl (q_skipUW hl rfl rfl rfl rfl (q_skipU hl rfl rfl rfl rfl (qS hl rfl rfl rfl rfl (by rw [h33]; decide) ?_)))
          refine qQ hl rfl rfl rfl (if_neg (by rw [h33]; decide)) ?_
          refine nK (rF hl rfl (by rfl) ?_)
          refine rK (kO (kN (rg 2 rfl (qP hl rfl rfl (by first | exact wI (by omega) | exact wU (by omega) | exact wB (by omega) | exact wL (by omega) | rfl) ?_))))
          refine qM hl rfl (nK ?_)
          exact ⟨4 - (i + 1), by omega, i + 1, rfl, by omega, Ho hl ⟨rfl, rfl, rfl, trivial⟩, by rw [hbe, hb1], rfl, by dsimp only; omega⟩
      · have h3_ := h3
        try simp only [dz] at h3_
        refine qS hl rfl rfl rfl rfl (by rw [h3]; decide) ?_
        refine qS hl rfl rfl rfl rfl (by rw [h3]; decide) ?_
        refine qS hl rfl rfl rfl rfl (by rw [h3]; decide) ?_
        refine qS hl rfl rfl rfl rfl (by rw [h3]; decide) ?_
        refine qS hl rfl rfl rfl rfl (by rw [h3]; decide) ?_
        refine qS hl rfl rfl rfl rfl (by rw [h3]; decide) ?_
        refine qS hl rfl rfl rfl rfl (by rw [h3]; decide) ?_
        refine qS hl rfl rfl rfl rfl (by rw [h3]; decide) ?_
        refine qS hl rfl rfl rfl rfl (by rw [h3]; decide) ?_
        refine qQ hl rfl rfl rfl (if_neg (by rw [h3]; decide)) ?_
        refine nK (rF hl rfl (by rfl) ?_)
        refine rK (kN (sg 12 rfl ?_))
        have hi3 : ¬ i < 3 := by omega
        rw [if_neg hi3] at hb1
        have e8 := num_lt ((M.drop (8 * i)).take 8)
        rw [List.length_take, Nat.min_eq_left hl8] at e8
        have h33 : ((i : Int) == 3) = true := by simp; omega
        refine qM hl rfl (qB hl rfl rfl rfl (qM hl rfl (qG hl rfl rfl rfl h33 (qM hl rfl (qG hl rfl rfl rfl h33 (qC hl rfl (CR.mono (rNumber_cr H (L := (M.drop (8 * i)).take 8) (by rw [List.length_take]; omega)) ?_)))))))
        rintro v ⟨hh2, cc2⟩ ⟨rfl, rfl, hk⟩
        try dsimp only at hk
        refine qG hl rfl rfl rfl h33 (qB hl rfl rfl rfl (qG hl rfl rfl rfl h33 (qM hl rfl ?_)))
        refine q_case hl (rfl : lk _ _ 42 = _) (fun hlo => ?_) (fun hlo => ?_)
        · have hlo_ := hlo
          try simp only [dz] at hlo_
          refine qS hl rfl rfl rfl rfl (by rw [hlo]; decide) ?_
          refine q_skipW hl rfl rfl rfl rfl (by rw [hlo]; decide) ?_
          refine qS hl rfl rfl rfl rfl (by rw [hlo]; decide) ?_
          refine qG hl rfl rfl rfl h33 (qQ hl rfl rfl rfl (if_pos hlo) (qQ hl rfl rfl rfl (if_pos h33) (nK (rT hl rfl (by rfl) ?_))))
          refine sg 1 rfl (qA hl rfl (nK (rR (k_bloR (kR (kR (k_bloR (kR (f_1 hl rfl (.inl rfl) rfl ?_)))))))))
          rw [hbe, hb1, if_pos (by omega)]
          exact ⟨rfl, rfl, by dsimp only at *; omega⟩
        · have hlo_ := hlo
          try simp only [dz] at hlo_
          refine qG hl rfl rfl rfl hlo (qM hl rfl (qG hl rfl rfl rfl hlo (qC hl rfl (CR.mono (rNumber_cr H (L := (M.drop (8 * i)).take 8) (by rw [List.length_take]; omega)) ?_))))
          rintro v ⟨hh3, cc3⟩ ⟨rfl, rfl, hk⟩
          try dsimp only at hk
          refine qG hl rfl rfl rfl hlo (qB hl rfl rfl rfl (qG hl rfl rfl rfl h33 (qQ hl rfl rfl rfl (if_neg (by rw [hlo]; decide)) ?_)))
          refine qQ hl rfl rfl rfl (if_pos h33) (nK ?_)
          refine rC hl rfl (fun hhi => ?_) (fun hhi => ?_)
          · try simp only [dz, dy] at hhi
            refine sg 1 rfl (qA hl rfl (nK (rR (k_bloR (kR (kR (k_bloR (kR (f_1 hl rfl (.inl rfl) rfl ?_)))))))))
            rw [hbe, hb1, if_pos (by omega)]
            exact ⟨rfl, rfl, by dsimp only at *; omega⟩
          · try simp only [dz, dy] at hhi
            rw [if_neg (by omega)] at hb1
            refine rK (kO (kN (rg 2 rfl (qP hl rfl rfl (by first | exact wI (by omega) | exact wU (by omega) | exact wB (by omega) | exact wL (by omega) | rfl) ?_))))
            refine qM hl rfl (nK ?_)
            exact ⟨4 - (i + 1), by omega, i + 1, rfl, by omega, Ho hl ⟨rfl, rfl, rfl, trivial⟩, by rw [hbe, hb1], rfl, by dsimp only at *; omega⟩
  · try simp only [dz, dy] at hi4
    refine r_exit (kE (kE (kB (kN (sg 1 rfl (qA hl rfl (nK (rR (f_1 hl rfl (.inl rfl) rfl ?_)))))))))
    have ei : i = 4 := by omega
    subst ei
    rw [hbe]
    exact ⟨rfl, rfl, by dsimp only; omega⟩
end
theorem openR_ok {s t : List Nat} {o sum : Nat} (h256 : ∀ x ∈ s, x < 256) (h : openR s o sum = .ok t) : t.length ≤ 251 * s.length := by
  simp only [openR] at h
  split at h
  · cases h
  · rename_i out hu
    split at h
    · cases h; have := unpk_len (unbw_lt (o := o) h256) hu; rw [unbw_len] at this; exact this
    · cases h
theorem openR_err {s : List Nat} {o sum e : Nat} (h : openR s o sum = .error e) : e ≠ 0 := by
  simp only [openR] at h
  repeat' split at h
  all_goals first | (cases h; decide) | (cases h; done)
section
variable {ov : OvT} (H : OvH ov)
include H
theorem rOpenE_cr {h : Heap} {c o sum : Nat} {s : List Nat} (h256 : ∀ x ∈ s, x < 256) (hn : s.length ≤ 900000) (ho : o < s.length) (hs : sum < 4294967296) :
    CR Tryz.prog ov 26 [.agg #[.string (txt s), nv o, uv sum]] ⟨h, c⟩ (fun v st => ∃ (t : List Nat) (e : Nat), v = .tuple #[.string (txt t), nv e] ∧ ((e ≠ 0 ∧ openR s o sum = .error e) ∨ (e = 0 ∧ openR s o sum = .ok t)) ∧ Keep [] h c st) := by
  refine (rOpen_cr H h256 hn ho hs).mono ?_
  rintro v st ⟨q, k⟩
  cases hu : openR s o sum with
  | error e => rw [hu] at q; exact ⟨[], e, q, .inl ⟨openR_err hu, rfl⟩, k⟩
  | ok t => rw [hu] at q; exact ⟨t, 0, q, .inr ⟨rfl, rfl⟩, k⟩
theorem rOne_cr {h : Heap} {c k room : Nat} {ALL : List Bool} {u : Un} {out : List Nat} (hL : ALL.length ≤ 1000000) (hk : k ≤ ALL.length) (hr : 5 ≤ room ∧ room ≤ 900000) (hd : u.due = 1) (ha : u.at_ = 0) (ht : u.total = 0) (hru : u.level * u.unit = room) :
    CR Tryz.prog ov 69 [.string (zs (ALL.drop k)), nv room] ⟨h, c⟩ (fun v st => ∃ (t : List Nat) (n e : Nat), v = .agg #[.string (txt t), nv n, nv e] ∧
      ((e ≠ 0 ∧ RunW ALL u out k (.error e)) ∨ (e = 0 ∧ k + n ≤ ALL.length ∧ 80 ≤ n ∧ t.length ≤ 225900000 * n ∧ ∃ u' : Un, u'.due = 0 ∧ u'.at_ = 0 ∧ u'.ended = true ∧ u'.unit = u.unit ∧ ∀ rr, RunW ALL u' (out ++ t) (k + n + (ALL.length - (k + n)) % 8) rr → RunW ALL u out k rr)) ∧ Keep [] h c st) := by
  obtain ⟨L, hLd⟩ : ∃ L, L = ALL.drop k := ⟨_, rfl⟩
  have hLl : L.length = ALL.length - k := by rw [hLd]; exact List.length_drop
  have hLk : ∀ m, L.drop m = ALL.drop (k + m) := fun m => by rw [hLd]; exact List.drop_drop ..
  rw [← hLd]
  have hsz : (zs L).size = L.length := by rw [txt_size, zl_len]
  refine e_2 Tryz.func69 rfl (H _ (by decide)) Tryz.ntmps69 (by decide) ?_
  intro env hl
  refine sg 1 rfl (qZ i114 z114 rfl (nK (sg 3 rfl (qU hl rfl i114 z114 rfl (by simp [Program.built, Instr.fill, Tryz.underlying114, Value.cells]; rfl) ?_))))
  refine qZ i114 z114 rfl (qV hl rfl rfl (by first | assumption | (simp only [gs]; rfl) | (simp [gs]; try rfl)) p114 rfl rfl (by simp [Value.cells]) ?_)
  refine nK (sg 1 rfl (qA hl rfl (nK (rS (sg 4 rfl (qM hl rfl (qK hl rfl Tryz.underlying9 ?_)))))))
  rw [hsz]
  refine qP hl rfl rfl (by first | exact wI (by omega) | exact wU (by omega) | exact wB (by omega) | exact wL (by omega) | rfl) ?_
  refine qM hl rfl (nK (rB ?_))
  refine rL (fun m env' s' => ∃ (i n : Nat) (t sums : List Nat) (a : Option Addr) (cp : Nat) (u1 : Un), m = L.length + 1 - i ∧ i ≤ L.length + 1 ∧ 48 * i ≤ n ∧ n ≤ L.length ∧ Hd 103 [(0, .string (zs L)), (1, nv room), (4, ptr c), (5, ptr (c + 2)), (6, .slice a sums.length cp), (15, nv (L.length + 1)), (16, nv i)] env' ∧ sums.length ≤ i ∧ (∀ x ∈ sums, x < 4294967296) ∧ t.length ≤ 225900000 * n ∧ Un.due u1 = 1 ∧ u1.level = u.level ∧ u1.unit = u.unit ∧ u1.at_ = 0 ∧ u1.total = sums.foldl crcCom 0 ∧ (∀ rr, RunW ALL u1 (out ++ t) (k + n) rr → RunW ALL u out k rr) ∧ s'.heap.get c = some ⟨[nostr, nv 0, nv 0], 114, 0⟩ ∧ s'.heap.get (c + 2) = some ⟨[.string (txt t), nv n, nv 0], 114, 0⟩ ∧ SlR 38 1 (sums.map uv) a sums.length cp s'.heap.get ∧ (∀ z ∈ own a, c + 9 ≤ z ∧ z < s'.ctr) ∧ c + 9 ≤ s'.ctr ∧ Keep [] h c s') (L.length + 1) ?_ ?_
  · refine ⟨0, 0, [], [], none, 0, u, rfl, Nat.zero_le _, Nat.zero_le _, Nat.zero_le _, Ho hl ⟨rfl, rfl, rfl, rfl, rfl, rfl, rfl, trivial⟩, Nat.zero_le _, by simp, Nat.zero_le _, hd, rfl, rfl, ha, ht, fun rr q => by simpa using q, ?_, ?_, SlR.nil, by simp [own], by dsimp only; omega, ((((Keep.refl (Nat.le_refl c)).set (.inl (by omega))).set (.inl (by omega))).set (.inl (by omega))).up (by omega)⟩
    · dsimp only; rw [T.get_set, if_neg (by omega), T.get_set, if_neg (by omega), T.get_set, if_pos (by omega)]; rfl
    · dsimp only; rw [T.get_set, if_pos (by omega)]; rfl
  rintro m _ ⟨h2, c2⟩ ⟨i, n, t, sums, a, cp, u1, rfl, hi, hin, hnl, ⟨env, hl, rfl⟩, hsl, hs32, htl, q1, q2, q3, q4, q5, hRed, hb4, hb5, hS, hO, hc2, hK⟩
  dsimp only at hb4 hb5 hS hO hc2
  have hdn : (ALL.drop (k + n)).length = L.length - n := by rw [← hLk]; exact List.length_drop
  have hroom : u1.level * u1.unit = room := by rw [q2, q3]; exact hru
  refine sg 1 rfl (qB hl rfl rfl rfl (nK (rS ?_)))
  refine rC hl rfl (fun hilt => ?_) (fun hilt => ?_)
  · try simp only [dz, dy] at hilt
    refine rK (kN (rS (rB (rS (sg 6 rfl (qM hl rfl (qK hl rfl Tryz.underlying9 ?_)))))))
    rw [hsz]
    refine qF hl rfl fa114_1 (qL hl rfl (by first | assumption | (simp only [gs]; rfl) | (simp [gs]; try rfl)) ((p3.1 _ _).trans rfl) ?_)
    refine q_sub hl rfl rfl (by first | exact wI (by omega) | exact wU (by omega) | exact wB (by omega) | exact wL (by omega) | rfl) ?_
    refine qB hl rfl rfl rfl (nK ?_)
    refine rC hl rfl (fun h48 => ?_) (fun h48 => ?_)
    · try simp only [dz, dy] at h48
      refine sg 2 rfl (qU hl rfl i114 z114 rfl (by simp [Program.built, Instr.fill, Tryz.underlying114, Value.cells]; rfl) ?_)
      refine qV hl rfl rfl (by first | assumption | (simp only [gs]; rfl) | (simp [gs]; try rfl)) p114 rfl rfl (by simp [Value.cells]) ?_
      refine nK (rR (kR (k_bloR (kR (kR (k_bloR (kR (f_c hl rfl (.inl rfl) rfl  (T.get_set _ _ _ _ |>.trans (if_pos rfl)) ((p114.1 _ _).trans rfl) ?_))))))))
      exact ⟨[], 0, 24, rfl, .inl ⟨by decide, hRed _ (magic_short q1 (by omega))⟩, (hK.set (.inl (by omega))).up (by omega)⟩
    · try simp only [dz, dy] at h48
      have h48l : 48 ≤ (ALL.drop (k + n)).length := by omega
      refine rK (kN (sg 8 rfl (qM hl rfl (qF hl rfl fa114_1 (qL hl rfl (by first | assumption | (simp only [gs]; rfl) | (simp [gs]; try rfl)) ((p3.1 _ _).trans rfl) ?_)))))
      refine qF hl rfl fa114_1 (qL hl rfl (by first | assumption | (simp only [gs]; rfl) | (simp [gs]; try rfl)) ((p3.1 _ _).trans rfl) ?_)
      refine qP hl rfl rfl (by first | exact wI (by omega) | exact wU (by omega) | exact wB (by omega) | exact wL (by omega) | rfl) ?_
      refine qT (s := zl L) n (n + 48) hl rfl Tryz.underlying9 rfl rfl ⟨by omega, by rw [zl_len]; omega⟩ ?_
      rw [zl_sub, Nat.add_sub_cancel_left, hLk]
      refine qA hl rfl (nK (sg 4 rfl (qF hl rfl fa114_1 (qL hl rfl (by first | assumption | (simp only [gs]; rfl) | (simp [gs]; try rfl)) ((p3.1 _ _).trans rfl) ?_))))
      refine qP hl rfl rfl (by first | exact wI (by omega) | exact wU (by omega) | exact wB (by omega) | exact wL (by omega) | rfl) ?_
      refine qA hl rfl (nK (rS (sg 2 rfl (qM hl rfl (qB hl rfl rfl (v := .bool ((ALL.drop (k + n)).take 48 == bitsN 48 25779555029136)) (congrArg (fun b => some (Value.bool b)) (zs_eq ((ALL.drop (k + n)).take 48) (bitsN 48 25779555029136))) (nK ?_))))))
      refine rC hl rfl (fun hend => ?_) (fun hend => ?_)
      · try simp only [dz, dy] at hend
        have hend' : (ALL.drop (k + n)).take 48 = bitsN 48 25779555029136 := by simpa using hend
        have hsl2 : (ALL.drop (k + n + 48)).length = L.length - (n + 48) := by rw [List.length_drop]; omega
        refine rS (sg 5 rfl (qM hl rfl (qK hl rfl Tryz.underlying9 ?_)))
        rw [hsz]
        refine qM hl rfl (q_sub hl rfl rfl (by first | exact wI (by omega) | exact wU (by omega) | exact wB (by omega) | exact wL (by omega) | rfl) ?_)
        refine qB hl rfl rfl rfl (nK ?_)
        refine rC hl rfl (fun h32 => ?_) (fun h32 => ?_)
        · try simp only [dz, dy] at h32
          refine sg 2 rfl (qU hl rfl i114 z114 rfl (by simp [Program.built, Instr.fill, Tryz.underlying114, Value.cells]; rfl) ?_)
          refine qV hl rfl rfl (by first | assumption | (simp only [gs]; rfl) | (simp [gs]; try rfl)) p114 rfl rfl (by simp [Value.cells]) ?_
          refine nK (rR (kR (kR (k_bloR (kR (kR (k_bloR (kR (f_c hl rfl (.inl rfl) rfl  (T.get_set _ _ _ _ |>.trans (if_pos rfl)) ((p114.1 _ _).trans rfl) ?_)))))))))
          exact ⟨[], 0, 24, rfl, .inl ⟨by decide, hRed _ (magic_end q1 h48l hend' (by simp only [Un.sumS]; rw [if_pos (by omega)]; rfl))⟩, (hK.set (.inl (by omega))).up (by omega)⟩
        · try simp only [dz, dy] at h32
          refine rK (kN (rS (sg 9 rfl (qM hl rfl (qM hl rfl (qM hl rfl (qP hl rfl rfl (by first | exact wI (by omega) | exact wU (by omega) | exact wB (by omega) | exact wL (by omega) | rfl) ?_)))))))
          refine qT (s := zl L) (n + 48) (n + 48 + 32) hl rfl Tryz.underlying9 rfl rfl ⟨by omega, by rw [zl_len]; omega⟩ ?_
          rw [zl_sub, Nat.add_sub_cancel_left, hLk, ← Nat.add_assoc]
          refine qC hl rfl (CR.mono (rNumber_cr H (L := (ALL.drop (k + n + 48)).take 32) (by rw [List.length_take]; omega)) ?_)
          rintro v ⟨hh1, cc1⟩ ⟨rfl, rfl, hk1⟩
          dsimp only at hk1
          refine qM hl rfl (qC hl rfl (CR.mono (rStream_cr H hS (by omega) hs32) ?_))
          rintro v ⟨hh2, cc2⟩ ⟨rfl, rfl, hk2⟩
          dsimp only at hk2
          refine qB hl rfl rfl rfl (nK ?_)
          refine rC hl rfl (fun hsum => ?_) (fun hsum => ?_)
          · try simp only [dz, dy] at hsum
            refine sg 2 rfl (qU hl rfl i114 z114 rfl (by simp [Program.built, Instr.fill, Tryz.underlying114, Value.cells]; rfl) ?_)
            refine qV hl rfl rfl (by first | assumption | (simp only [gs]; rfl) | (simp [gs]; try rfl)) p114 rfl rfl (by simp [Value.cells]) ?_
            refine nK (rR (kR (kR (k_bloR (kR (kR (k_bloR (kR (f_c hl rfl (.inl rfl) rfl  (T.get_set _ _ _ _ |>.trans (if_pos rfl)) ((p114.1 _ _).trans rfl) ?_)))))))))
            have hne : num ((ALL.drop (k + n + 48)).take 32) ≠ u1.total := by rw [q5]; intro q; rw [q] at hsum; simp at hsum
            exact ⟨[], 0, 21, rfl, .inl ⟨by decide, hRed _ (magic_end q1 h48l hend' (by simp only [Un.sumS]; rw [if_neg (by omega), if_pos hne]; rfl))⟩, (hK.set (.inl (by omega))).up (by omega)⟩
          · try simp only [dz, dy] at hsum
            have heq : num ((ALL.drop (k + n + 48)).take 32) = u1.total := by rw [q5]; simp only [bne_eq_false_iff_eq] at hsum; omega
            refine rK (kN (sg 6 rfl (qF hl rfl fa114_0 (qL hl rfl (by first | assumption | (simp only [gs]; rfl) | (simp [gs]; try rfl)) ((p9.1 _ _).trans rfl) ?_))))
            refine qM hl rfl (qP hl rfl rfl (by first | exact wI (by omega) | exact wU (by omega) | exact wB (by omega) | exact wL (by omega) | rfl) ?_)
            refine qU hl rfl i114 z114 rfl (by simp [Program.built, Instr.fill, Tryz.underlying114, Value.cells]; rfl) ?_
            refine qV hl rfl rfl (by first | assumption | (simp only [gs]; rfl) | (simp [gs]; try rfl)) p114 rfl rfl (by simp [Value.cells]) ?_
            refine nK (rR (kR (k_bloR (kR (kR (k_bloR (kR (f_c hl rfl (.inl rfl) rfl  (T.get_set _ _ _ _ |>.trans (if_pos rfl)) ((p114.1 _ _).trans rfl) ?_))))))))
            have e80 : k + n + 48 + (32 + (L.length - (n + 48) - 32) % 8) = k + (n + 48 + 32) + (ALL.length - (k + (n + 48 + 32))) % 8 := by omega
            exact ⟨t, n + 48 + 32, 0, rfl, .inr ⟨rfl, by omega, by omega, by omega, { u1 with due := 0, ended := true }, rfl, q4, rfl, q3, fun rr hh => hRed rr (magic_end q1 h48l hend' (by simp only [Un.sumS]; rw [if_neg (by omega), if_neg (by simpa using heq)]; dsimp only; rw [hsl2, e80]; exact hh))⟩, (hK.set (.inl (by omega))).up (by omega)⟩
      · try simp only [dz, dy] at hend
        have hend' : (ALL.drop (k + n)).take 48 ≠ bitsN 48 25779555029136 := by simpa using hend
        refine rK (kN (rS (sg 2 rfl (qM hl rfl (qB hl rfl rfl (v := .bool !((ALL.drop (k + n)).take 48 == bitsN 48 54156738319193)) (congrArg (fun b => some (Value.bool !b)) (zs_eq ((ALL.drop (k + n)).take 48) (bitsN 48 54156738319193))) (nK ?_))))))
        refine rC hl rfl (fun hmag => ?_) (fun hmag => ?_)
        · try simp only [dz, dy] at hmag
          refine sg 2 rfl (qU hl rfl i114 z114 rfl (by simp [Program.built, Instr.fill, Tryz.underlying114, Value.cells]; rfl) ?_)
          refine qV hl rfl rfl (by first | assumption | (simp only [gs]; rfl) | (simp [gs]; try rfl)) p114 rfl rfl (by simp [Value.cells]) ?_
          refine nK (rR (kR (k_bloR (kR (kR (k_bloR (kR (f_c hl rfl (.inl rfl) rfl  (T.get_set _ _ _ _ |>.trans (if_pos rfl)) ((p114.1 _ _).trans rfl) ?_))))))))
          exact ⟨[], 0, 20, rfl, .inl ⟨by decide, hRed _ (magic_bad q1 h48l (by simpa using hmag) hend')⟩, (hK.set (.inl (by omega))).up (by omega)⟩
        · try simp only [dz, dy] at hmag
          have hmag' : (ALL.drop (k + n)).take 48 = bitsN 48 54156738319193 := by simpa using hmag
          have hB : ∀ rr, RunW ALL { u1 with block := some (Bl.new room), due := 2 } (out ++ t) (k + n + 48) rr → RunW ALL u out k rr := fun rr q => hRed rr (magic_block q1 h48l hmag' (by rw [hroom]; exact q))
          refine rK (kN (sg 7 rfl (qM hl rfl (qM hl rfl (qT (s := zl L) (n + 48) (zl L).length hl rfl Tryz.underlying9 rfl rfl ⟨by rw [zl_len]; omega, Nat.le_refl _⟩ ?_)))))
          rw [zl_rest, hLk, ← Nat.add_assoc]
          refine qM hl rfl (qC hl rfl (CR.mono (rBlk_cr H (L := ALL.drop (k + n + 48)) (by rw [List.length_drop]; omega) hr) ?_))
          rintro v ⟨hh1, cc1⟩ ⟨last, o, sum, bits, held, e1, rfl, hcase, hK1⟩
          have hcc1 := hK1.1
          dsimp only at hcc1 hcase
          refine qZ i160 z160 rfl (qV hl rfl rfl (by first | assumption | (simp only [gs]; rfl) | (simp [gs]; try rfl)) p160 rfl rfl (by simp [Value.cells]) ?_)
          refine ro_gen (fun H6 hH6 => ?_)
          have hx6 : ∀ x, x ≠ c2 + 28 → H6.get x = hh1.get x := fun x hx => by rw [hH6]; simp only [T.get_set]; rw [if_neg (by omega), if_neg (by omega)]
          have hb9 : H6.get (c2 + 28) = some ⟨[.string (txt last), nv o, uv sum, nv bits, iv held, nv e1], 160, 0⟩ := by rw [hH6, T.get_set, if_pos (by omega)]; rfl
          have hlow : ∀ x, x < c2 → H6.get x = h2.get x := fun x hx => (hx6 x (by omega)).trans (hK1.2 x (by omega) (by simp))
          have hb46 := (hlow c (by omega)).trans hb4
          have hb56 := (hlow (c + 2) (by omega)).trans hb5
          have hK6 : Keep [] h c ⟨H6, cc1⟩ := ⟨by dsimp only; omega, fun x hx _ => (hlow x (by omega)).trans (hK.2 x hx (by simp))⟩
          refine nK (rS (sg 3 rfl (qF hl rfl fa160_3 (qL hl rfl (by first | assumption | (simp only [gs]; rfl) | (simp [gs]; try rfl)) ((p3.1 _ _).trans rfl) ?_))))
          refine qB hl rfl rfl rfl (nK ?_)
          refine rC hl rfl (fun he3 => ?_) (fun he3 => ?_)
          · try simp only [dz, dy] at he3
            refine sg 2 rfl (qU hl rfl i114 z114 rfl (by simp [Program.built, Instr.fill, Tryz.underlying114, Value.cells]; rfl) ?_)
            refine qV hl rfl rfl (by first | assumption | (simp only [gs]; rfl) | (simp [gs]; try rfl)) p114 rfl rfl (by simp [Value.cells]) ?_
            refine nK (rR (kR (k_bloR (kR (kR (k_bloR (kR (f_c hl rfl (.inl rfl) rfl  (T.get_set _ _ _ _ |>.trans (if_pos rfl)) ((p114.1 _ _).trans rfl) ?_))))))))
            have e3 : e1 = 3 := by omega
            have hd3 : Runs Bl.step blF (ALL.drop (k + n + 48)) (Bl.new room) 0 (.error 3) := by rcases hcase with q | q; (rw [e3] at q; exact q.2); (exfalso; have := q.1; omega)
            exact ⟨[], 0, 24, rfl, .inl ⟨by decide, hB _ ((blk_law (u := { u1 with due := 2 }) (out := out ++ t) hd3 rfl rfl).1 3 rfl)⟩, (hK6.set (.inl (by omega))).up (by omega)⟩
          · try simp only [dz, dy] at he3
            refine rK (kN (rS (sg 3 rfl (qF hl rfl fa160_3 (qL hl rfl (by first | assumption | (simp only [gs]; rfl) | (simp [gs]; try rfl)) ((p3.1 _ _).trans rfl) ?_)))))
            refine qB hl rfl rfl rfl (nK ?_)
            refine rC hl rfl (fun herr => ?_) (fun herr => ?_)
            · try simp only [dz, dy] at herr
              refine sg 4 rfl (qF hl rfl fa160_3 (qL hl rfl (by first | assumption | (simp only [gs]; rfl) | (simp [gs]; try rfl)) ((p3.1 _ _).trans rfl) ?_))
              refine qU hl rfl i114 z114 rfl (by simp [Program.built, Instr.fill, Tryz.underlying114, Value.cells]; rfl) ?_
              refine qV hl rfl rfl (by first | assumption | (simp only [gs]; rfl) | (simp [gs]; try rfl)) p114 rfl rfl (by simp [Value.cells]) ?_
              refine nK (rR (kR (k_bloR (kR (kR (k_bloR (kR (f_c hl rfl (.inl rfl) rfl  (T.get_set _ _ _ _ |>.trans (if_pos rfl)) ((p114.1 _ _).trans rfl) ?_))))))))
              have hd3 : e1 ≠ 0 ∧ Runs Bl.step blF (ALL.drop (k + n + 48)) (Bl.new room) 0 (.error e1) := by rcases hcase with q | ⟨q, _⟩; exact q; (subst q; simp at herr)
              have hlw := (blk_law (u := { u1 with due := 2 }) (out := out ++ t) hd3.2 rfl rfl).1 e1 rfl
              rw [if_neg (by intro q; subst q; simp at he3)] at hlw
              exact ⟨[], 0, e1, rfl, .inl ⟨hd3.1, hB _ hlw⟩, (hK6.set (.inl (by omega))).up (by omega)⟩
            · try simp only [dz, dy] at herr
              obtain ⟨rfl, b, hRb, rfl, rfl, rfl, ho, h256, hlr, hs32', hbits⟩ : e1 = 0 ∧ ∃ b, Runs Bl.step blF (ALL.drop (k + n + 48)) (Bl.new room) 0 (.ok (b, bits)) ∧ b.last = last ∧ b.from_ = o ∧ b.sum = sum ∧ o < last.length ∧ (∀ x ∈ last, x < 256) ∧ last.length ≤ room ∧ sum < 4294967296 ∧ bits ≤ (ALL.drop (k + n + 48)).length := by rcases hcase with ⟨q, _⟩ | q; (exfalso; simp at herr; omega); exact q
              rw [List.length_drop] at hbits
              have hlw := (blk_law (u := { u1 with due := 2 }) (out := out ++ t) hRb rfl rfl).2 b bits rfl
              refine rK (kN (sg 8 rfl (qF hl rfl fa160_0 (qL hl rfl (by first | assumption | (simp only [gs]; rfl) | (simp [gs]; try rfl)) ((p49.1 _ _).trans rfl) ?_))))
              refine qC hl rfl (CR.mono (rOpenE_cr H h256 (by omega) ho hs32') ?_)
              rintro v ⟨hh3, cc3⟩ ⟨t2, e5, rfl, hcase5, hK3⟩
              have hcc3 := hK3.1
              dsimp only at hcc3
              refine qM hl rfl ?_
              have hlow3 : ∀ x, x < cc1 → hh3.get x = H6.get x := fun x hx => hK3.2 x (by omega) (by simp)
              have hb43 := (hlow3 c (by omega)).trans hb46
              have hb53 := (hlow3 (c + 2) (by omega)).trans hb56
              have hb93 := (hlow3 (c2 + 28) (by omega)).trans hb9
              have hK33 : Keep [] h c ⟨hh3, cc3⟩ := ⟨by dsimp only; omega, fun x hx _ => (hlow3 x (by omega)).trans (hK6.2 x hx (by simp))⟩
              refine qE hl rfl rfl (qE hl rfl rfl (qA hl rfl (qA hl rfl (nK (rS (sg 2 rfl (qM hl rfl (qB hl rfl rfl rfl (nK ?_)))))))))
              refine rC hl rfl (fun herr5 => ?_) (fun herr5 => ?_)
              · try simp only [dz, dy] at herr5
                refine sg 3 rfl (qM hl rfl (qU hl rfl i114 z114 rfl (by simp [Program.built, Instr.fill, Tryz.underlying114, Value.cells]; rfl) ?_))
                refine qV hl rfl rfl (by first | assumption | (simp only [gs]; rfl) | (simp [gs]; try rfl)) p114 rfl rfl (by simp [Value.cells]) ?_
                refine nK (rR (kR (k_bloR (kR (kR (k_bloR (kR (f_c hl rfl (.inl rfl) rfl  (T.get_set _ _ _ _ |>.trans (if_pos rfl)) ((p114.1 _ _).trans rfl) ?_))))))))
                have hd5 : e5 ≠ 0 ∧ openR b.last b.from_ b.sum = .error e5 := by rcases hcase5 with q | ⟨q, _⟩; exact q; (subst q; simp at herr5)
                rw [hd5.2] at hlw
                exact ⟨[], 0, e5, rfl, .inl ⟨hd5.1, hB _ (hlw _ rfl)⟩, (hK33.set (.inl (by omega))).up (by omega)⟩
              · try simp only [dz, dy] at herr5
                obtain ⟨rfl, hop⟩ : e5 = 0 ∧ openR b.last b.from_ b.sum = .ok t2 := by rcases hcase5 with ⟨q, _⟩ | q; (exfalso; simp at herr5; omega); exact q
                rw [hop] at hlw
                have ht2 := openR_ok h256 hop
                have hS3 := hS.move (g' := hh3.get) (fun z hz => by have := hO z hz; exact (hlow3 z (by omega)).trans (hlow z (by omega)))
                refine rK (kN (sg 7 rfl (qM hl rfl (qF hl rfl fa160_0 (qF hl rfl fa49_2 (qL hl rfl (by first | assumption | (simp only [gs]; rfl) | (simp [gs]; try rfl)) ((p38.1 _ _).trans rfl) ?_))))))
                refine q1_ hl rfl a63 rfl (qX hl rfl rfl a63 a63 (hS3.move (fun z hz => by have := hO z hz; rw [T.get_set, if_neg (by omega)])) ((T.get_set _ _ _ _).trans (if_pos rfl)) rfl (by omega) (by omega) ?_)
                intro a4 cp4 h5 hS5 hO5 hF5
                have hmv : ∀ x, x < cc1 → x ∉ own a → h5.get x = hh3.get x := fun x hx hx2 => (hF5 x (by omega) hx2).trans (by rw [T.get_set, if_neg (by omega)])
                have hn2 : c + 2 ∉ own a := fun m => by have := hO _ m; omega
                have hn1 : c ∉ own a := fun m => by have := hO _ m; omega
                have hn9 : c2 + 28 ∉ own a := fun m => by have := hO _ m; omega
                have hb45 := (hmv c (by omega) hn1).trans hb43
                have hb55 := (hmv (c + 2) (by omega) hn2).trans hb53
                have hb95 := (hmv (c2 + 28) (by omega) hn9).trans hb93
                have hK5 := hK33.app2 hF5 (fun z hz => .inl (by have := hO z hz; omega)) (by omega) (by omega) (Nat.le_refl _)
                refine qA hl rfl (nK (rg 10 rfl (qF hl rfl fa114_0 (qL hl rfl (by first | assumption | (simp only [gs]; rfl) | (simp [gs]; try rfl)) ((p9.1 _ _).trans rfl) ?_))))
                refine qM hl rfl (qB hl rfl rfl (addS t t2 (by omega)) ?_)
                refine qM hl rfl (qF hl rfl fa160_1 (qL hl rfl (by first | assumption | (simp only [gs]; rfl) | (simp [gs]; try rfl)) ((p3.1 _ _).trans rfl) ?_))
                refine qP hl rfl rfl (by first | exact wI (by omega) | exact wU (by omega) | exact wB (by omega) | exact wL (by omega) | rfl) ?_
                refine qU hl rfl i114 z114 rfl (by simp [Program.built, Instr.fill, Tryz.underlying114, Value.cells]; rfl) ?_
                refine qV hl rfl rfl (by first | assumption | (simp only [gs]; rfl) | (simp [gs]; try rfl)) p114 rfl rfl (by simp [Value.cells]) ?_
                refine rN (kO (kN (rg 2 rfl (qP hl rfl rfl (by first | exact wI (by omega) | exact wU (by omega) | exact wB (by omega) | exact wL (by omega) | rfl) ?_))))
                refine qM hl rfl (nK ?_)
                refine ⟨_, ?_, i + 1, n + 48 + bits, t ++ t2, sums ++ [b.sum], a4, cp4, { u1 with block := none, last := b.last, origin := b.from_, gsum := b.sum, total := crcCom u1.total b.sum, due := 1 }, rfl, by omega, by omega, by omega, Ho hl ⟨rfl, rfl, rfl, rfl, by rw [List.length_append]; rfl, rfl, rfl, trivial⟩, by rw [List.length_append]; simp; omega, ?_, by rw [List.length_append]; omega, rfl, q2, q3, q4, ?_, ?_, ?_, ?_, ?_, ?_, by dsimp only; omega, (hK5.set (.inl (by omega))).up (by omega)⟩
                · omega
                · intro x hx; rcases List.mem_append.mp hx with q | q; (exact hs32 x q); (simp only [List.mem_singleton] at q; omega)
                · dsimp only; rw [List.foldl_append, ← q5]; rfl
                · intro rr q; refine hB rr (hlw rr ?_); dsimp only; rw [List.append_assoc, show k + n + 48 + bits = k + (n + 48 + bits) by omega]; exact q
                · dsimp only; rw [T.get_set, if_neg (by omega)]; exact hb45
                · dsimp only; rw [T.get_set, if_pos (by omega)]; rfl
                · rw [List.map_append, List.length_append]; exact hS5.move (fun z hz => by have := hO5 z hz; dsimp only; rw [T.get_set, if_neg (by omega)])
                · intro z hz; have := hO5 z hz; dsimp only; omega
  · try simp only [dz, dy] at hilt
    omega
end
end Go.Proofs.YtegjkhgaoabfcaaGreat
