/- Part 10 (a part of the proof of UnstreamSteps; no condition). -/
import Derived.Test.YtegjkhgaoabfcaaGreatWi
set_option linter.unusedSimpArgs false
set_option linter.unusedVariables false
set_option maxRecDepth 10000
namespace Go.AE
theorem ro_gen {P : Program} {ov : OvT} {ops : Array Oper} {c0 i c : Nat} {l : List Oper} {env : Env} {h : Heap} {sn : List (Nat × Heap)} {md : Heap} {Q : RS → Prop} (k : ∀ H2, H2 = h → RO P ov ops c0 l i ⟨env, ⟨H2, c⟩, sn, md⟩ Q) :
    RO P ov ops c0 l i ⟨env, ⟨h, c⟩, sn, md⟩ Q := k h rfl
end Go.AE
namespace Go.Proofs.YtegjkhgaoabfcaaGreat
open Go.AE
def valF (row : List Nat) : Nat × Nat := row.foldl (fun p c => (p.1 + p.2 + c * p.2, 2 * p.2)) (0, 1)
theorem valF_snoc (a : List Nat) (c : Nat) : valF (a ++ [c]) = ((valF a).1 + (valF a).2 + c * (valF a).2, 2 * (valF a).2) := by simp [valF]
theorem valF_le {row : List Nat} (h : ∀ x ∈ row, x < 2) : (valF row).2 = 2 ^ row.length ∧ (valF row).1 + 2 ≤ 2 * 2 ^ row.length := by
  have key : ∀ (row : List Nat) (p : Nat × Nat), (∀ x ∈ row, x < 2) → (row.foldl (fun p c => (p.1 + p.2 + c * p.2, 2 * p.2)) p).2 = p.2 * 2 ^ row.length ∧ (row.foldl (fun p c => (p.1 + p.2 + c * p.2, 2 * p.2)) p).1 + 2 * p.2 ≤ p.1 + 2 * (p.2 * 2 ^ row.length) := by
    intro row
    induction row with
    | nil => intro p _; simp
    | cons x row ih =>
      intro p hp
      have hx := hp x (by simp)
      have hxw : x * p.2 ≤ p.2 := by rcases (by omega : x = 0 ∨ x = 1) with q | q <;> simp [q]
      obtain ⟨i1, i2⟩ := ih (p.1 + p.2 + x * p.2, 2 * p.2) (fun y hy => hp y (by simp [hy]))
      have e : 2 * p.2 * 2 ^ row.length = p.2 * 2 ^ (row.length + 1) := by rw [Nat.pow_succ, Nat.mul_comm 2 p.2, Nat.mul_assoc, Nat.mul_comm 2]
      simp only [List.foldl_cons, List.length_cons]
      simp only [e] at i1 i2
      exact ⟨i1, by omega⟩
  have := key row (0, 1) h
  simpa [valF] using this
theorem Ze.put_good {z z' : Ze} {s d p : Nat} (hg : z.good) (h : z.put s = .ok (z', d, p)) : z'.good ∧ z'.n = z.n ∧ z'.most = z.most := by
  obtain ⟨g1, g2, g3, g4, g5⟩ := hg
  simp only [Ze.put] at h
  split at h
  · split at h
    · cases h
    · cases h
      refine ⟨⟨g1, g2, g3, by dsimp only; omega, ?_⟩, rfl, rfl⟩
      dsimp only; rw [Nat.mul_add]; omega
  · split at h
    · cases h; exact ⟨⟨g1, g2, g3, by dsimp only; omega, by dsimp only; omega⟩, rfl, rfl⟩
    · split at h
      · cases h
      · cases h; exact ⟨⟨g1, g2, g3, by dsimp only; omega, by dsimp only; omega⟩, rfl, rfl⟩
def ZrR (z : Ze) (row : List Nat) (a : Option Addr) (cp : Nat) (g : Nat → Option Blk) : Prop :=
  z.good ∧ z.most ≤ 1000000 ∧ (∀ x ∈ row, x < 2) ∧ valF row = (z.zeros, z.weight) ∧ SlR 3 1 (row.map nv) a row.length cp g
theorem ZrR.move {z : Ze} {row : List Nat} {a : Option Addr} {cp : Nat} {g g' : Nat → Option Blk} (h : ZrR z row a cp g) (hg : ∀ x ∈ own a, g' x = g x) : ZrR z row a cp g' :=
  ⟨h.1, h.2.1, h.2.2.1, h.2.2.2.1, h.2.2.2.2.move hg⟩
theorem ZrR.len {z : Ze} {row : List Nat} {a : Option Addr} {cp : Nat} {g : Nat → Option Blk} (h : ZrR z row a cp g) : row.length ≤ 20 := by
  obtain ⟨⟨g1, g2, g3, g4, g5⟩, h2, h3, h4, _⟩ := h
  have := (valF_le h3).1
  rw [h4] at this; dsimp only at this
  rcases Nat.lt_or_ge 20 row.length with q | q
  · have h5 : 2 ^ 20 ≤ 2 ^ row.length := Nat.pow_le_pow_right (by omega) (by omega)
    omega
  · exact q
def zrV (z : Ze) (row : List Nat) (a : Option Addr) (cp : Nat) : List Value := [nv z.n, nv z.most, nv z.told, .slice a row.length cp, .bool z.done]
section
variable {ov : OvT} (H : OvH ov)
include H
theorem rValue_cr {h : Heap} {c n cp : Nat} {row : List Nat} {a : Option Addr} (hS : SlR 3 1 (row.map nv) a n cp h.get) (hn : n ≤ 30) (hx : ∀ x ∈ row, x < 2) :
    CR Tryz.prog ov 204 [.slice a n cp] ⟨h, c⟩ (fun v st => v = nv (valF row).1 ∧ Same h c st) := by
  have hln : row.length = n := by have := hS.len; simpa using this
  refine e_1 Tryz.func204 rfl (H _ (by decide)) Tryz.ntmps204 (by decide) ?_
  intro env U
  refine sg 1 J (qA U J (nK (sg 1 J (qA U J (nK (sg 1 J (qA U J (nK (rS (sg 3 J (qM U J (q_lenL U J Tryz.underlying171 (qM U J (nK (rB ?_)))))))))))))))
  refine rL (fun m env' s' => ∃ j, m = n - j ∧ j ≤ n ∧ Hd 26 [(7, .slice a n cp), (8, nv n), (9, nv j), (3, nv (valF (row.take j)).1), (4, nv (valF (row.take j)).2)] env' ∧ s'.heap = h ∧ c ≤ s'.ctr) n ?_ ?_
  · exact ⟨0, rfl, Nat.zero_le _, Ho U ⟨rfl, rfl, rfl, rfl, rfl, trivial⟩, rfl, by dsimp only; omega⟩
  rintro m _ ⟨h2, c2⟩ ⟨j, rfl, hj, ⟨env, U, rfl⟩, he, hc2⟩
  dsimp only at he hc2
  subst he
  refine sg 1 J (qB U J J J (nK (rS ?_)))
  refine rC U rfl (fun hjn => ?_) (fun hjn => ?_)
  · try simp only [dz, dy] at hjn
    obtain ⟨x, hx1⟩ : ∃ x, row[j]? = some x := ⟨_, List.getElem?_eq_getElem (by omega)⟩
    have hx2 := hx x (List.mem_of_getElem? hx1)
    have hb := valF_le (row := row.take j) (fun x q => hx x (List.mem_of_mem_take q)); rw [List.length_take, Nat.min_eq_left (by omega)] at hb
    have hp : 2 ^ j ≤ 2 ^ 30 := Nat.pow_le_pow_right (by omega) (by omega)
    have htk : valF (row.take (j + 1)) = ((valF (row.take j)).1 + (valF (row.take j)).2 + x * (valF (row.take j)).2, 2 * (valF (row.take j)).2) := by rw [List.take_add_one, hx1]; exact valF_snoc _ _
    obtain ⟨w, hw⟩ : ∃ w, w = (valF (row.take j)).2 := ⟨_, rfl⟩
    obtain ⟨m0, hm0⟩ : ∃ w, w = (valF (row.take j)).1 := ⟨_, rfl⟩
    rw [← hw, ← hm0] at htk hb
    rw [← hw, ← hm0]
    have hxw : x * w ≤ w := by rcases (by omega : x = 0 ∨ x = 1) with q | q <;> simp [q]
    obtain ⟨mb, rfl, rfl, hmb⟩ := hS.pos (by omega)
    refine rK (kN (rS (rB (sg 3 J (qI U rfl rfl e171 ⟨by omega, by omega⟩ ?_)))))
    refine qL U rfl aA ((p3.1 _ _).trans (by simp [hx1])) (v := nv x) ?_
    refine qA U J (nK (rS (sg 2 J (qM U J (qB U J J J (nK (rF U J dA ?_)))))))
    refine rK (kN (sg 8 J (qM U J (qM U J (qP U J J wA ?_)))))
    refine qM U J (qM U J (q_mul U rfl rfl (m := ((x * w : Nat) : Int)) (by rw [← Int.natCast_mul]; exact wrapI oA oA) ?_))
    refine qP U J J wA ?_
    refine qA U J (nK (rg 3 J (qM U J (q_mul U J J wA ?_))))
    refine qA U J (rN (kO (kN (rg 2 J (qP U J J wA ?_)))))
    refine qM U J (nK ?_)
    exact ⟨n - (j + 1), by omega, j + 1, rfl, by omega, Ho U ⟨rfl, rfl, rfl, by rw [htk]; rfl, by rw [htk]; rfl, trivial⟩, rfl, by dsimp only; omega⟩
  · try simp only [dz, dy] at hjn
    refine r_exit (kE (kE (kB (kN (sg 2 J (qM U J (qA U J (nK (rR (f_1 U J (.inl J) J ?_))))))))))
    have ej : j = n := by omega
    subst ej
    rw [List.take_of_length_le (by omega)]
    exact ⟨rfl, rfl, by dsimp only; omega⟩
theorem rCount_cr {h : Heap} {c n cp t : Nat} {x0 x1 x4 : Value} {row : List Nat} {a : Option Addr} (hS : SlR 3 1 (row.map nv) a n cp h.get) (hc : ∀ z ∈ own a, z < c) (hn : n ≤ 30) (hx : ∀ x ∈ row, x < 2) (ht : t ≤ 2000000000) :
    CR Tryz.prog ov 203 [.agg #[x0, x1, nv t, .slice a n cp, x4]] ⟨h, c⟩ (fun v st => v = nv (t + (valF row).1) ∧ Keep [] h c st) := by
  have hln : row.length = n := by have := hS.len; simpa using this
  have hb := (valF_le hx).2
  rw [hln] at hb
  have hp : 2 ^ n ≤ 2 ^ 30 := Nat.pow_le_pow_right (by omega) hn
  refine e_1 Tryz.func203 rfl (H _ (by decide)) Tryz.ntmps203 (by decide) ?_
  intro env U
  refine sg 2 J (q_box U J (qA U J (nK (rS (rD [(1, 5)] (by decide +kernel) (by decide +kernel) (n := 7) rfl ?_)))))
  refine qF U J fa247_2 (qL U J gA ((p3.1 _ _).trans J) ?_)
  refine qF U J fa247_3 (qL U J gA ((p171.1 _ _).trans J) ?_)
  refine qC U J (CR.mono (rValue_cr H (hS.move (fun z hz => by have := hc z hz; rw [T.get_set, if_neg oA])) hn hx) ?_)
  rintro v ⟨hh1, cc1⟩ ⟨rfl, rfl, hk⟩
  try dsimp only at hk
  refine qP U J J wA ?_
  refine qA U J ?_
  refine ro_nilp ?_ ?_
  · exact all1 (pair_load U rfl rfl rfl rfl ((heapAt_old rfl (by omega)).trans ((T.get_set _ _ _ _).trans (if_pos rfl))) ((p3.1 _ _).trans rfl) rfl (same_int _ _))
  refine kN (rR (f_1 U J (.inl J) J ?_))
  exact ⟨rfl, ((Keep.refl (Nat.le_refl c)).set (.inl (by omega))).up (by omega)⟩
theorem rPut_cr {h : Heap} {c s cp : Nat} {z : Ze} {row : List Nat} {a : Option Addr} (hZ : ZrR z row a cp h.get) (hc : ∀ x ∈ own a, x < c) (hd : z.done = false) (hs : s ≤ z.n + 1) :
    CR Tryz.prog ov 179 [.agg (zrV z row a cp).toArray, nv s] ⟨h, c⟩ (fun v st => (match z.put s with
      | .error _ => v = .agg (zrV z row a cp ++ [nv 0, nv 0, nv 2]).toArray
      | .ok (z', d, p) => ∃ row' a' cp', v = .agg (zrV z' row' a' cp' ++ [nv d, iv (if p = 0 then -1 else p), nv 0]).toArray ∧ ZrR z' row' a' cp' st.heap.get ∧ (∀ x ∈ own a', c ≤ x ∧ x < st.ctr)) ∧ Keep [] h c st) := by
  have hlen := hZ.len
  obtain ⟨hg, hm, hx, hv, hS⟩ := id hZ
  obtain ⟨g1, g2, g3, g4, g5⟩ := id hg
  have hv1 : (valF row).1 = z.zeros := by rw [hv]
  have hv2 : (valF row).2 = z.weight := by rw [hv]
  have hws : z.weight * (s + 1) = z.weight + s * z.weight := by rw [Nat.mul_add, Nat.mul_comm]; omega
  simp only [zrV, hd, List.cons_append, List.nil_append]
  refine e_2 Tryz.func179 rfl (H _ (by decide)) Tryz.ntmps179 (by decide) ?_
  intro env U
  refine sg 2 J (q_box U J (qZ i249 z249 J (nK (rS (sg 2 J (qF U J fa247_4 (qL U J gA ((p4.1 _ _).trans J) ?_)))))))
  refine nK (rF U rfl (by rfl) ?_)
  refine rK (kN (rS (sg 9 J ?_)))
  have h1 : decide ((s : Int) < 0) = false := by simp
  refine qM U J (qB U J J J (qM U J (qG U J J J h1 (qM U J (qG U J J J h1 (qF U J fa247_0 (qG U J J J h1 (qL U J gA ((p3.1 _ _).trans J) ?_))))))))
  refine qG U J J J h1 (qP U J J wA ?_)
  refine qG U J J J h1 (qB U J J J (qQ U rfl rfl rfl (if_neg (by rw [h1]; decide)) ?_))
  refine nK (rF U J dA ?_)
  refine rK (kN (sg 3 J (qL U J gA ((p247.1 _ _).trans J) ?_)))
  refine qZ i247 z247 J (qV U rfl rfl gA p247 rfl rfl (by simp [Value.cells]) ?_)
  refine nK (rS (sg 2 J ?_))
  refine ro_gen (fun H2 hH2 => ?_)
  have hb2 : H2.get c = some ⟨[nv z.n, nv z.most, nv z.told, .slice a row.length cp, .bool false], 247, 0⟩ := by rw [hH2]; simp only [T.get_set, if_true, if_false]; (repeat (first | rw [if_neg (by omega)] | rw [if_pos (by omega)])); rfl
  have hb5 : H2.get (c + 2 + 2 + 9 + 1) = some ⟨[nv z.n, nv z.most, nv z.told, .slice a row.length cp, .bool false], 247, 0⟩ := by rw [hH2]; simp only [T.get_set, if_true, if_false]; (repeat (first | rw [if_neg (by omega)] | rw [if_pos (by omega)])); rfl
  have hb4 : H2.get (c + 1) = some ⟨[nv 0, nv 0, nv 0, nilS, .bool false, nv 0, nv 0, nv 0], 249, 0⟩ := by rw [hH2]; simp only [T.get_set, if_true, if_false]; (repeat (first | rw [if_neg (by omega)] | rw [if_pos (by omega)])); rfl
  have hF : ∀ x, x < c → H2.get x = h.get x := fun x hx => by rw [hH2]; simp only [T.get_set, if_true, if_false]; (repeat (first | rw [if_neg (by omega)] | rw [if_pos (by omega)]))
  refine qM U J (qB U J J J (nK ?_))
  refine rC U rfl (fun hs2 => ?_) (fun hs2 => ?_)
  · try simp only [dz, dy] at hs2
    refine sg 1 J (qA U J (nK (sg 5 J (qM U J (qF U J fa247_3 (qL U J gA ((p171.1 _ _).trans J) ?_))))))
    refine q_append U rfl rfl a171 SlR.nil ((hS.move (fun z hz => hF z (hc z hz))).src Tryz.underlying171 (all_map_int _ _ _)) (by simp) oA oA ?_
    intro a2 cp2 h3 hS2 hO2 hF2
    refine qA U J (nK (sg 5 J (qM U J (qM U J (q1_ U J a171 J (qX U rfl rfl a171 a171 (hS2.move (fun z hz => by have := hO2 z hz; rw [T.get_set, if_neg oA])) ((T.get_set _ _ _ _).trans (if_pos rfl)) rfl oA oA ?_))))))
    intro a3 cp3 h4 hS3 hO3 hF3
    have hkp : ∀ x, x < c + 15 → h4.get x = H2.get x := fun x hx => (hF3 x (by omega) (fun m => by have := hO2 x m; omega)).trans (by rw [T.get_set, if_neg (by omega)]; exact hF2 x (by omega) (by simp [own]))
    have hb2' := (hkp c (by omega)).trans hb2
    have hb5' := (hkp (c + 2 + 2 + 9 + 1) (by omega)).trans hb5
    have hb4' := (hkp (c + 1) (by omega)).trans hb4
    have hS3' : SlR 3 1 ((row ++ [s]).map nv) a3 (0 + row.length + 1) cp3 h4.get := by rw [List.map_append]; exact hS3
    refine qA U J (nK (sg 3 J ?_))
    skip
    refine qM U J (qF U J fa247_3 (qW U rfl rfl gA p171 rfl rfl (by first | decide | (simp; done) | (simp; omega)) ?_))
    refine ro_gen (fun H5 hH5 => ?_)
    have hx5 : ∀ x, x ≠ c + 2 + 2 + 9 + 1 → H5.get x = h4.get x := fun x hx => by rw [hH5, T.get_set, if_neg hx]
    have hb5'' : H5.get (c + 2 + 2 + 9 + 1) = some ⟨[nv z.n, nv z.most, nv z.told, .slice a3 (0 + row.length + 1) cp3, .bool false], 247, 0⟩ := by rw [hH5, T.get_set, if_pos rfl]; rfl
    have hb2'' := (hx5 c (by omega)).trans hb2'
    have hb4'' := (hx5 (c + 1) (by omega)).trans hb4'
    have hS5 := hS3'.move (g' := H5.get) (fun x hx => hx5 x (by have := hO3 x hx; omega))
    refine nK (rS (rS (rD [(3, 0)] (by decide +kernel) (by decide +kernel) (n := 5) rfl ?_)))
    refine qL U J gA ((p247.1 _ _).trans J) ?_
    refine qC U J (CR.mono (rCount_cr H (row := row ++ [s]) hS5 (fun x hx => by have := hO3 x hx; omega) oA (fun x hx => by rcases List.mem_append.mp hx with q | q; exact hZ.2.2.1 x q; simp at q; omega) oA) ?_)
    rintro v ⟨hh1, cc1⟩ ⟨rfl, hK3⟩
    have hcc1 := hK3.1
    dsimp only at hcc1
    have hb2c := (hK3.2 c (by omega) (by simp)).trans hb2''
    have hb4c := (hK3.2 (c + 1) (by omega) (by simp)).trans hb4''
    have hb5c := (hK3.2 (c + 2 + 2 + 9 + 1) (by omega) (by simp)).trans hb5''
    have hvs : (valF (row ++ [s])).1 = z.zeros + z.weight + s * z.weight := by rw [valF_snoc, hv]
    rw [hvs]
    have hKc : Keep [] h c ⟨hh1, cc1⟩ := ⟨by dsimp only; omega, fun x hx _ => (hK3.2 x (by omega) (by simp)).trans ((hx5 x (by omega)).trans ((hkp x (by omega)).trans (hF x hx)))⟩
    refine qF U J fa247_1 (qL U J gA ((p3.1 _ _).trans J) ?_)
    refine qB U J J J ?_
    refine ro_nilp ?_ ?_
    · exact all1 (pair_load U rfl rfl rfl rfl ((heapAt_old rfl (by omega)).trans hb2'') ((p3.1 _ _).trans rfl) rfl (same_int _ _))
    refine kN ?_
    refine rC U rfl (fun hov => ?_) (fun hov => ?_)
    · try simp only [dz, dy] at hov
      refine sg 3 J (qL U J gA ((p247.1 _ _).trans J) ?_)
      refine qU U rfl i249 z249 rfl (by simp [Program.built, Instr.fill, Tryz.underlying249, Value.cells]; rfl) ?_
      refine qV U rfl rfl gA p249 rfl rfl (by simp [Value.cells]) ?_
      refine nK (rR (kR (kR (f_c U J (.inl J) J  (T.get_set _ _ _ _ |>.trans (if_pos J)) ((p249.1 _ _).trans J) ?_))))
      have hq : z.put s = .error 2 := by simp only [Ze.put]; rw [if_pos (by omega), if_pos (by omega)]
      rw [hq]
      exact ⟨rfl, (hKc.set (.inl (by omega))).up (by omega)⟩
    · try simp only [dz, dy] at hov
      have hq : z.put s = .ok ({ z with zeros := z.zeros + z.weight * (s + 1), weight := 2 * z.weight }, 0, 0) := by simp only [Ze.put]; rw [if_pos (by omega), if_neg (by omega)]
      have e1 : 0 + row.length + 1 = (row ++ [s]).length := by simp
      have e1' : (row ++ [s]).length = row.length + 1 := by simp
      refine rK (kN (sg 3 J (qL U J gA ((p247.1 _ _).trans J) ?_)))
      refine qU U rfl i249 z249 rfl (by simp [Program.built, Instr.fill, Tryz.underlying249, Value.cells]; rfl) ?_
      refine qV U rfl rfl gA p249 rfl rfl (by simp [Value.cells]) ?_
      refine nK (rR (kR (f_c U J (.inl J) J  (T.get_set _ _ _ _ |>.trans (if_pos J)) ((p249.1 _ _).trans J) ?_)))
      rw [hq]
      refine ⟨⟨row ++ [s], a3, cp3, by simp only [hd, e1']; rfl, ⟨(Ze.put_good hg hq).1, hm, fun x hx => by rcases List.mem_append.mp hx with q | q; exact hZ.2.2.1 x q; simp at q; omega, by rw [valF_snoc, hv]; dsimp only; rw [hws, Nat.add_assoc], ?_⟩, fun x hx => by have := hO3 x hx; dsimp only; omega⟩, (hKc.set (.inl oA)).up oA⟩
      rw [← e1]
      exact hS5.move (fun x hx => by have := hO3 x hx; dsimp only; rw [T.get_set, if_neg (by omega)]; exact hK3.2 x (by omega) (by simp))
  · try simp only [dz, dy] at hs2
    refine rK (kN (sg 4 J (qF U J fa247_3 (qL U J gA ((p171.1 _ _).trans J) ?_))))
    refine qC U J (CR.mono (rValue_cr H (hS.move (fun z hz => hF z (hc z hz))) oA hx) ?_)
    rintro v ⟨hh2, cc2⟩ ⟨rfl, rfl, hk⟩
    try dsimp only at hk
    rw [hv1]
    refine qA U J (nK (sg 6 J (qF U J fa247_2 (qL U J gA ((p3.1 _ _).trans J) ?_))))
    refine qM U J (qP U J J wA ?_)
    refine qF U J fa247_2 (qW U rfl rfl gA p3 rfl rfl (by first | decide | (simp; done) | (simp; omega)) ?_)
    refine nK (sg 2 J ?_)
    skip
    refine qF U J fa247_3 (qW U rfl rfl gA p171 rfl rfl (by first | decide | (simp; done) | (simp; omega)) ?_)
    refine ro_gen (fun H7 hH7 => ?_)
    have hx7 : ∀ x, x ≠ c + 2 + 2 + 9 + 1 → H7.get x = H2.get x := fun x hx => by rw [hH7, T.get_set, if_neg hx, T.get_set, if_neg hx]
    have hb7 : H7.get (c + 2 + 2 + 9 + 1) = some ⟨[nv z.n, nv z.most, nv (z.told + z.zeros), nilS, .bool false], 247, 0⟩ := by rw [hH7, T.get_set, if_pos rfl]; rfl
    have hb2' := (hx7 c (by omega)).trans hb2
    have hb4' := (hx7 (c + 1) (by omega)).trans hb4
    have hKc : Keep [] h c ⟨H7, cc2⟩ := ⟨by dsimp only; omega, fun x hx _ => (hx7 x (by omega)).trans (hF x hx)⟩
    refine nK (rS (sg 5 J (qM U J (qF U J fa247_0 (qL U J gA ((p3.1 _ _).trans J) ?_)))))
    refine qP U J J wA ?_
    refine qB U J J J (nK ?_)
    refine rC U rfl (fun hend => ?_) (fun hend => ?_)
    · try simp only [dz, dy] at hend
      refine sg 2 J (qF U J fa247_4 (qW U rfl rfl gA p4 rfl rfl (by first | decide | (simp; done) | (simp; omega)) ?_))
      refine nK (sg 4 J ?_)
      refine ro_gen (fun H8 hH8 => ?_)
      have hb8 : H8.get (c + 2 + 2 + 9 + 1) = some ⟨[nv z.n, nv z.most, nv (z.told + z.zeros), nilS, .bool true], 247, 0⟩ := by rw [hH8, T.get_set, if_pos rfl]; rfl
      have hb48 : H8.get (c + 1) = some ⟨[nv 0, nv 0, nv 0, nilS, .bool false, nv 0, nv 0, nv 0], 249, 0⟩ := by rw [hH8, T.get_set, if_neg (by omega)]; exact hb4'
      have hK8 : Keep [] h c ⟨H8, cc2⟩ := by rw [hH8]; exact hKc.set (.inl (by omega))
      refine qL U J gA ((p247.1 _ _).trans J) ?_
      refine qM U J (qU U rfl i249 z249 rfl (by simp [Program.built, Instr.fill, Tryz.underlying249, Value.cells]; rfl) ?_)
      refine qV U rfl rfl gA p249 rfl rfl (by simp [Value.cells]) ?_
      refine nK (rR (kR (f_c U J (.inl J) J  (T.get_set _ _ _ _ |>.trans (if_pos J)) ((p249.1 _ _).trans J) ?_)))
      have hq : z.put s = .ok ({ z with told := z.told + z.zeros, zeros := 0, weight := 1, done := true }, z.zeros, 0) := by simp only [Ze.put]; rw [if_neg (by omega), if_pos (by omega)]
      rw [hq]
      exact ⟨⟨[], none, 0, rfl, ⟨(Ze.put_good hg hq).1, hm, by simp, rfl, SlR.nil⟩, by simp [own]⟩, (hK8.set (.inl (by omega))).up (by omega)⟩
    · try simp only [dz, dy] at hend
      refine rK (kN (sg 5 J ?_))
      skip
      refine qF U J fa247_2 (qL U J gA ((p3.1 _ _).trans J) ?_)
      refine qP U J J wA ?_
      refine qF U J fa247_2 (qW U rfl rfl gA p3 rfl rfl (by first | decide | (simp; done) | (simp; omega)) ?_)
      refine ro_gen (fun H9 hH9 => ?_)
      have hx9 : ∀ x, x ≠ c + 2 + 2 + 9 + 1 → H9.get x = H7.get x := fun x hx => by rw [hH9, T.get_set, if_neg hx]
      have hb9 : H9.get (c + 2 + 2 + 9 + 1) = some ⟨[nv z.n, nv z.most, nv (z.told + z.zeros + 1), nilS, .bool false], 247, 0⟩ := by rw [hH9, T.get_set, if_pos rfl]; rfl
      have hb29 := (hx9 c (by omega)).trans hb2'
      have hb49 := (hx9 (c + 1) (by omega)).trans hb4'
      have hK9 : Keep [] h c ⟨H9, cc2⟩ := by rw [hH9]; exact hKc.set (.inl (by omega))
      refine nK (rS (sg 5 J (qF U J fa247_2 (qL U J gA ((p3.1 _ _).trans J) ?_))))
      refine qF U J fa247_1 (qL U J gA ((p3.1 _ _).trans J) ?_)
      refine qB U J J J (nK ?_)
      refine rC U rfl (fun hov => ?_) (fun hov => ?_)
      · try simp only [dz, dy] at hov
        refine sg 3 J (qL U J gA ((p247.1 _ _).trans J) ?_)
        refine qU U rfl i249 z249 rfl (by simp [Program.built, Instr.fill, Tryz.underlying249, Value.cells]; rfl) ?_
        refine qV U rfl rfl gA p249 rfl rfl (by simp [Value.cells]) ?_
        refine nK (rR (kR (f_c U J (.inl J) J  (T.get_set _ _ _ _ |>.trans (if_pos J)) ((p249.1 _ _).trans J) ?_)))
        have hq : z.put s = .error 2 := by simp only [Ze.put]; rw [if_neg (by omega), if_neg (by omega), if_pos (by omega)]
        rw [hq]
        exact ⟨rfl, (hK9.set (.inl (by omega))).up (by omega)⟩
      · try simp only [dz, dy] at hov
        refine rK (kN (sg 6 J (qL U J gA ((p247.1 _ _).trans J) ?_)))
        refine qM U J (qM U J (q_sub U J J wA ?_))
        refine qU U rfl i249 z249 rfl (by simp [Program.built, Instr.fill, Tryz.underlying249, Value.cells]; rfl) ?_
        refine qV U rfl rfl gA p249 rfl rfl (by simp [Value.cells]) ?_
        refine nK (rR (f_c U J (.inl J) J  (T.get_set _ _ _ _ |>.trans (if_pos J)) ((p249.1 _ _).trans J) ?_))
        have hq : z.put s = .ok ({ z with told := z.told + z.zeros + 1, zeros := 0, weight := 1 }, z.zeros, s - 1) := by simp only [Ze.put]; rw [if_neg (by omega), if_neg (by omega), if_neg (by omega)]
        rw [hq]
        refine ⟨⟨[], none, 0, ?_, ⟨(Ze.put_good hg hq).1, hm, by simp, rfl, SlR.nil⟩, by simp [own]⟩, (hK9.set (.inl oA)).up oA⟩
        dsimp only; rw [if_neg (show ¬ s - 1 = 0 by omega), show ((s - 1 : Nat) : Int) = (s : Int) - 1 by omega, hd]; rfl
end
theorem putsL_pre {z : Ze} {a b : List Nat} (h : putsL z (a ++ b) ≠ none) : putsL z a ≠ none := by
  intro q; rw [putsL_app, q] at h; exact h rfl
section
variable {ov : OvT} (H : OvH ov)
include H
theorem rPutE_cr {h : Heap} {c s cp : Nat} {z : Ze} {row : List Nat} {a : Option Addr} (hZ : ZrR z row a cp h.get) (hc : ∀ x ∈ own a, x < c) (hd : z.done = false) (hs : s ≤ z.n + 1) :
    CR Tryz.prog ov 179 [.agg (zrV z row a cp).toArray, nv s] ⟨h, c⟩ (fun v st => ∃ (z1 : Ze) (row1 : List Nat) (a1 : Option Addr) (cp1 d : Nat) (pl : Int) (e : Nat), v = .agg (zrV z1 row1 a1 cp1 ++ [nv d, iv pl, nv e]).toArray ∧
      ((e = 2 ∧ ∃ e', z.put s = .error e') ∨ (e = 0 ∧ ∃ p, z.put s = .ok (z1, d, p) ∧ pl = (if p = 0 then (-1 : Int) else (p : Int)) ∧ ZrR z1 row1 a1 cp1 st.heap.get ∧ ∀ x ∈ own a1, c ≤ x ∧ x < st.ctr)) ∧ Keep [] h c st) := by
  refine (rPut_cr H hZ hc hd hs).mono ?_
  rintro v st ⟨q, k⟩
  cases hq : z.put s with
  | error e => rw [hq] at q; exact ⟨z, row, a, cp, 0, 0, 2, q, .inl ⟨rfl, e, rfl⟩, k⟩
  | ok y =>
    obtain ⟨z', d, p⟩ := y
    rw [hq] at q
    obtain ⟨row', a', cp', q1, q2, q3⟩ := q
    exact ⟨z', row', a', cp', d, _, 0, q1, .inr ⟨rfl, p, rfl, rfl, q2, q3⟩, k⟩
theorem rCodes_cr {h : Heap} {c n cp N room : Nat} {l : List Nat} {a : Option Addr} (hS : SlR 3 1 (l.map nv) a n cp h.get) (hc : ∀ z ∈ own a, z < c) (hn : n ≤ 1000000) (hN : 1 ≤ N ∧ N ≤ 256) (hr : room ≤ 1000000) (hx : ∀ x ∈ l, x ≤ N + 1) (hlast : ∀ i, l[i]? = some (N + 1) → i + 1 = n) :
    CR Tryz.prog ov 146 [.slice a n cp, nv N, nv room] ⟨h, c⟩ (fun v st => (∃ e, v = nv e ∧ (e = 0 ↔ putsL (Ze.new N room) l ≠ none)) ∧ Keep [] h c st) := by
  have hln : l.length = n := by have := hS.len; simpa using this
  refine e_3 Tryz.func146 rfl (H _ (by decide)) Tryz.ntmps146 (by decide) ?_
  intro env U
  refine sg 1 J (qA U J (nK (sg 5 J (qM U J (qM U J (qU U rfl i247 z247 rfl (by simp [Program.built, Instr.fill, Tryz.underlying247, Value.cells]; rfl) ?_))))))
  refine qZ i247 z247 J (qV U rfl rfl gA p247 rfl rfl (by simp [Value.cells]) ?_)
  refine nK (rS (sg 3 J (qM U J (q_lenL U J Tryz.underlying171 (qM U J (nK (rB ?_)))))))
  refine rL (fun m env' s' => ∃ j z ps row a1 cp1, m = n - j ∧ j ≤ n ∧ Hd 31 [(14, .slice a n cp), (15, nv n), (16, nv j), (7, ptr (c + 4))] env' ∧ putsL (Ze.new N room) (l.take j) = some (z, ps) ∧ z.n = N ∧ z.most = room ∧ (j < n → z.done = false) ∧ ZrR z row a1 cp1 s'.heap.get ∧ (∀ x ∈ own a1, c ≤ x ∧ x < s'.ctr ∧ x ≠ c + 4) ∧ s'.heap.get (c + 4) = some ⟨zrV z row a1 cp1, 247, 0⟩ ∧ c + 5 ≤ s'.ctr ∧ Keep [] h c s') n ?_ ?_
  · refine ⟨0, Ze.new N room, [], [], none, 0, rfl, Nat.zero_le _, Ho U ⟨rfl, rfl, rfl, rfl, trivial⟩, rfl, rfl, rfl, fun _ => rfl, ⟨⟨hN.1, hN.2, by dsimp only [Ze.new]; omega, by dsimp only [Ze.new]; omega, by dsimp only [Ze.new]; omega⟩, hr, by simp, rfl, SlR.nil⟩, by simp [own], ?_, by dsimp only; omega, ?_⟩
    · dsimp only; rw [T.get_set, if_pos (by omega)]; rfl
    · exact (((Keep.refl (Nat.le_refl c)).set (.inl (by omega))).set (.inl (by omega))).up (by omega)
  rintro m _ ⟨h2, c2⟩ ⟨j, z, ps, row, a1, cp1, rfl, hj, ⟨env, U, rfl⟩, hps, hzn, hzm, hzd, hZ, hO, hb7, hc2, hK⟩
  dsimp only at hZ hO hb7 hc2
  refine sg 1 J (qB U J J J (nK (rS ?_)))
  refine rC U rfl (fun hjn => ?_) (fun hjn => ?_)
  · try simp only [dz, dy] at hjn
    obtain ⟨x, hx1⟩ : ∃ x, l[j]? = some x := ⟨_, List.getElem?_eq_getElem (by omega)⟩
    have hx2 := hx x (List.mem_of_getElem? hx1)
    have hS2 := hS.move (g' := h2.get) (fun z hz => hK.2 z (by have := hc z hz; omega) (by simp))
    obtain ⟨mb, rfl, rfl, hmb⟩ := hS2.pos (by omega)
    have hzd' := hzd (by omega)
    have htk : l.take (j + 1) = l.take j ++ [x] := by rw [List.take_add_one, hx1]; rfl
    have hsn := putsL_snoc (l.take j) x (Ze.new N room)
    rw [← htk, hps] at hsn; simp only [Option.bind_some] at hsn
    refine rK (kN (rS (rB (sg 3 J (qI U rfl rfl e171 ⟨by omega, by omega⟩ ?_)))))
    refine qL U rfl gA ((p3.1 _ _).trans (by simp [hx1])) (v := nv x) ?_
    refine qA U J (nK (sg 5 J (qL U J gA ((p247.1 _ _).trans J) ?_)))
    refine qM U J (qC U J (CR.mono (rPutE_cr H hZ (fun x hx => by have := hO x hx; omega) hzd' oA) ?_))
    rintro v ⟨hh1, cc1⟩ ⟨z1, row1, a2, cp2, d, pl, e, rfl, hcase, hK1⟩
    have hcc1 := hK1.1
    dsimp only at hcc1 hcase
    refine qZ i249 z249 J (qV U rfl rfl gA p249 rfl rfl (by simp [Value.cells]) ?_)
    refine ro_gen (fun H6 hH6 => ?_)
    have hx6 : ∀ x, x ≠ c2 + 7 → H6.get x = hh1.get x := fun x hx => by rw [hH6]; simp only [T.get_set]; rw [if_neg (by omega), if_neg (by omega)]
    have hb10 : H6.get (c2 + 7) = some ⟨zrV z1 row1 a2 cp2 ++ [nv d, iv pl, nv e], 249, 0⟩ := by rw [hH6, T.get_set, if_pos (by omega)]; rfl
    have hb7' := (hx6 (c + 4) (by omega)).trans ((hK1.2 (c + 4) (by omega) (by simp)).trans hb7)
    have hK6 : Keep [] h c ⟨H6, cc1⟩ := ⟨by dsimp only; omega, fun x hx _ => (hx6 x (by omega)).trans ((hK1.2 x (by omega) (by simp)).trans (hK.2 x hx (by simp)))⟩
    refine nK (rS (sg 3 J (qF U J fa249_3 (qL U J gA ((p3.1 _ _).trans J) ?_))))
    refine qB U J J J (nK ?_)
    refine rC U rfl (fun herr => ?_) (fun herr => ?_)
    · try simp only [dz, dy] at herr
      refine sg 3 J (qF U J fa249_3 (qL U J gA ((p3.1 _ _).trans J) ?_))
      refine qA U J (nK (rR (kR (k_bloR (kR (kR (k_bloR (kR (f_1 U J (.inl J) J ?_)))))))))
      have he2 : e = 2 ∧ ∃ e', z.put x = .error e' := by rcases hcase with q | ⟨q, _⟩; exact q; (simp [q] at herr)
      obtain ⟨rfl, e', he'⟩ := he2
      rw [he'] at hsn
      have hno : putsL (Ze.new N room) l = none := by rw [← List.take_append_drop (j + 1) l, putsL_app, hsn]; rfl
      exact ⟨⟨2, rfl, by simp [hno]⟩, hK6.up (by omega)⟩
    · try simp only [dz, dy] at herr
      obtain ⟨rfl, p, hp, rfl, hZ1, hO1⟩ : e = 0 ∧ ∃ p, z.put x = .ok (z1, d, p) ∧ pl = (if p = 0 then (-1 : Int) else (p : Int)) ∧ ZrR z1 row1 a2 cp2 hh1.get ∧ ∀ x ∈ own a2, c2 + 9 ≤ x ∧ x < cc1 := by rcases hcase with ⟨q, _⟩ | ⟨q, p, q1, q2, q3, q4⟩; (subst q; simp at herr); exact ⟨q, p, q1, q2, q3, fun x hx => by have := q4 x hx; omega⟩
      rw [hp] at hsn
      have hok := Ze.put_ok (by omega) (by omega) hzd' hp
      refine rK (kN (rg 3 J (qF U J fa249_0 (qL U J gA ((p247.1 _ _).trans J) ?_))))
      refine qV U rfl rfl gA p247 rfl rfl (by simp [Value.cells, zrV]) ?_
      refine rN (kO (kN (rg 2 J (qP U J J wA ?_))))
      refine qM U J (nK ?_)
      refine ⟨n - (j + 1), by omega, j + 1, z1, ps ++ places d p, row1, a2, cp2, rfl, by omega, Ho U ⟨rfl, rfl, rfl, rfl, trivial⟩, hsn, by omega, by omega, fun q => ?_, hZ1.move (fun x hx => ?_), fun x hx => ?_, ?_, by dsimp only; omega, (hK6.set (.inl oA)).up oA⟩
      · rw [hok.2.2.1]; simp only [beq_eq_false_iff_ne, ne_eq]; intro q2; have := hlast j (by rw [hx1]; congr 1; omega); omega
      · have := hO1 x hx; dsimp only; rw [T.get_set, if_neg (by omega)]; exact hx6 x (by omega)
      · have := hO1 x hx; dsimp only; omega
      · dsimp only; rw [T.get_set, if_pos (by omega)]; rfl
  · try simp only [dz, dy] at hjn
    refine r_exit (kE (kE (kB (kN (sg 1 J (qA U J (nK (rR (f_1 U J (.inl J) J ?_)))))))))
    have ej : j = n := by omega
    subst ej
    rw [List.take_of_length_le (by omega)] at hps
    exact ⟨⟨0, rfl, by simp [hps]⟩, hK.up (by omega)⟩
theorem rDecode7_cr {h : Heap} {c n cp N room : Nat} {l ps' : List Nat} {z' : Ze} {a : Option Addr} (hS : SlR 3 1 (l.map nv) a n cp h.get) (hc : ∀ z ∈ own a, z < c) (hn : n ≤ 1000000) (hN : 1 ≤ N ∧ N ≤ 256) (hr : room ≤ 1000000) (hx : ∀ x ∈ l, x ≤ N + 1) (hlast : ∀ i, l[i]? = some (N + 1) → i + 1 = n) (hp : putsL (Ze.new N room) l = some (z', ps')) (hpd : z'.done = true) :
    CR Tryz.prog ov 148 [.slice a n cp, nv N, nv room] ⟨h, c⟩ (fun v st => (∃ a' cp', v = .tuple #[.slice a' ps'.length cp', nv 0] ∧ SlR 3 1 (ps'.map nv) a' ps'.length cp' st.heap.get ∧ ∀ z ∈ own a', c ≤ z ∧ z < st.ctr) ∧ Keep [] h c st) := by
  have hln : l.length = n := by have := hS.len; simpa using this
  have g1 : decide ((N : Int) < 1) = false := by simp; omega
  have g2 : decide ((N : Int) > 256) = false := by simp; omega
  have g3 : decide ((room : Int) < 0) = false := by simp
  refine e_3 Tryz.func148 rfl (H _ (by decide)) Tryz.ntmps148 (by decide) ?_
  intro env U
  refine sg 2 J (qA U J (qA U J (nK (rS (sg 14 J (qM U J (qB U J J J (qM U J (qG U J J J g1 (qM U J (qG U J J J g1 (qB U J J J (qQ U rfl rfl rfl (if_neg (by rw [g1]; decide)) ?_)))))))))))))
  refine qM U J (qG U J J J g2 (qM U J (qG U J J J g2 (qB U J J J (qQ U rfl rfl rfl (if_neg (by rw [g2]; decide)) ?_)))))
  refine qM U J (qG U J J J g3 (qM U J (qG U J J J g3 (qB U J J J (qQ U rfl rfl rfl (if_neg (by rw [g3]; decide)) ?_)))))
  refine nK (rF U J dA ?_)
  refine rK (kN (sg 5 J (qM U J (qM U J (qU U rfl i247 z247 rfl (by simp [Program.built, Instr.fill, Tryz.underlying247, Value.cells]; rfl) ?_)))))
  refine qZ i247 z247 J (qV U rfl rfl gA p247 rfl rfl (by simp [Value.cells]) ?_)
  refine nK (sg 1 J (qA U J (nK (rS (sg 3 J (qM U J (q_lenL U J Tryz.underlying171 (qM U J (nK (rB ?_))))))))))
  refine rL (fun m env' s' => ∃ j z ps row a1 cp1 ao cpo, m = n - j ∧ j ≤ n ∧ Hd 70 [(30, .slice a n cp), (31, nv n), (32, nv j), (8, ptr (c + 19)), (9, .slice ao ps.length cpo)] env' ∧ putsL (Ze.new N room) (l.take j) = some (z, ps) ∧ z.n = N ∧ z.most = room ∧ ps.length = z.told ∧ (j < n → z.done = false) ∧ ZrR z row a1 cp1 s'.heap.get ∧ (∀ x ∈ own a1, c ≤ x ∧ x < s'.ctr) ∧ SlR 3 1 (ps.map nv) ao ps.length cpo s'.heap.get ∧ (∀ x ∈ own ao, c ≤ x ∧ x < s'.ctr ∧ x ∉ own a1) ∧ s'.heap.get (c + 19) = some ⟨zrV z row a1 cp1, 247, 0⟩ ∧ c + 20 ≤ s'.ctr ∧ Keep [] h c s') n ?_ ?_
  · refine ⟨0, Ze.new N room, [], [], none, 0, none, 0, rfl, Nat.zero_le _, Ho U ⟨rfl, rfl, rfl, rfl, rfl, trivial⟩, rfl, rfl, rfl, rfl, fun _ => rfl, ⟨⟨hN.1, hN.2, by dsimp only [Ze.new]; omega, by dsimp only [Ze.new]; omega, by dsimp only [Ze.new]; omega⟩, hr, by simp, rfl, SlR.nil⟩, by simp [own], SlR.nil, by simp [own], ?_, by dsimp only; omega, ?_⟩
    · dsimp only; rw [T.get_set, if_pos (by omega)]; rfl
    · exact (((Keep.refl (Nat.le_refl c)).set (.inl (by omega))).set (.inl (by omega))).up (by omega)
  rintro m _ ⟨h2, c2⟩ ⟨j, z, ps, row, a1, cp1, ao, cpo, rfl, hj, ⟨env, U, rfl⟩, hps, hzn, hzm, hzt, hzd, hZ, hO1, hSo, hOo, hb8, hc2, hK⟩
  dsimp only at hZ hO1 hSo hOo hb8 hc2
  refine sg 1 J (qB U J J J (nK (rS ?_)))
  refine rC U rfl (fun hjn => ?_) (fun hjn => ?_)
  · try simp only [dz, dy] at hjn
    obtain ⟨x, hx1⟩ : ∃ x, l[j]? = some x := ⟨_, List.getElem?_eq_getElem (by omega)⟩
    have hx2 := hx x (List.mem_of_getElem? hx1)
    have hS2 := hS.move (g' := h2.get) (fun z hz => hK.2 z (by have := hc z hz; omega) (by simp))
    obtain ⟨mb, rfl, rfl, hmb⟩ := hS2.pos (by omega)
    have hzd' := hzd (by omega)
    have htk : l.take (j + 1) = l.take j ++ [x] := by rw [List.take_add_one, hx1]; rfl
    have hsn := putsL_snoc (l.take j) x (Ze.new N room)
    rw [← htk, hps] at hsn; simp only [Option.bind_some] at hsn
    have hnn : putsL (Ze.new N room) (l.take (j + 1)) ≠ none := putsL_pre (b := l.drop (j + 1)) (by rw [List.take_append_drop, hp]; simp)
    refine rK (kN (rS (rB (sg 3 J (qI U rfl rfl e171 ⟨by omega, by omega⟩ ?_)))))
    refine qL U rfl gA ((p3.1 _ _).trans (by simp [hx1])) (v := nv x) ?_
    refine qA U J (nK (sg 5 J (qL U J gA ((p247.1 _ _).trans J) ?_)))
    refine qM U J (qC U J (CR.mono (rPutE_cr H hZ (fun x hx => by have := hO1 x hx; omega) hzd' oA) ?_))
    rintro v ⟨hh1, cc1⟩ ⟨z1, row1, a2, cp2, d, pl, e, rfl, hcase, hK1⟩
    have hcc1 := hK1.1
    dsimp only at hcc1 hcase
    obtain ⟨rfl, p, hp1, hpl, hZ1, hO2⟩ : e = 0 ∧ ∃ p, z.put x = .ok (z1, d, p) ∧ pl = (if p = 0 then (-1 : Int) else (p : Int)) ∧ ZrR z1 row1 a2 cp2 hh1.get ∧ ∀ x ∈ own a2, c2 + 9 ≤ x ∧ x < cc1 := by rcases hcase with ⟨_, e', q⟩ | ⟨q, p, q1, q2, q3, q4⟩; (rw [q] at hsn; exact absurd hsn hnn); exact ⟨q, p, q1, q2, q3, fun x hx => by have := q4 x hx; omega⟩
    rw [hp1] at hsn
    have hok := Ze.put_ok (by omega) (by omega) hzd' hp1
    have hb1 : ps.length + d + (if 0 < p then 1 else 0) ≤ 1000000 := by have := hZ1.1.2.2.2.1; have := hok.2.2.2.2.2; omega
    have hdone : j + 1 < n → z1.done = false := fun q => by rw [hok.2.2.1]; simp only [beq_eq_false_iff_ne, ne_eq]; intro q2; have := hlast j (by rw [hx1]; congr 1; omega); omega
    refine qZ i249 z249 J (qV U rfl rfl gA p249 rfl rfl (by simp [Value.cells]) ?_)
    refine ro_gen (fun H6 hH6 => ?_)
    have hx6 : ∀ x, x ≠ c2 + 7 → H6.get x = hh1.get x := fun x hx => by rw [hH6]; simp only [T.get_set]; rw [if_neg (by omega), if_neg (by omega)]
    have hb10 : H6.get (c2 + 7) = some ⟨zrV z1 row1 a2 cp2 ++ [nv d, iv pl, nv 0], 249, 0⟩ := by rw [hH6, T.get_set, if_pos (by omega)]; rfl
    have hb8' := (hx6 (c + 19) (by omega)).trans ((hK1.2 (c + 19) (by omega) (by simp)).trans hb8)
    have hK6 : Keep [] h c ⟨H6, cc1⟩ := ⟨by dsimp only; omega, fun x hx _ => (hx6 x (by omega)).trans ((hK1.2 x (by omega) (by simp)).trans (hK.2 x hx (by simp)))⟩
    have hSo6 := hSo.move (g' := H6.get) (fun x hx => by have := hOo x hx; exact (hx6 x (by omega)).trans (hK1.2 x (by omega) (by simp)))
    have hZ6 := hZ1.move (g' := H6.get) (fun x hx => by have := hO2 x hx; exact hx6 x (by omega))
    refine nK (rS (sg 3 J (qF U J fa249_3 (qL U J gA ((p3.1 _ _).trans J) ?_))))
    refine qB U J J J (nK (rF U rfl (by rfl) ?_))
    refine rK (kN (rS (sg 3 J (qF U J fa249_3 (qL U J gA ((p3.1 _ _).trans J) ?_)))))
    refine qB U J J J (nK (rF U rfl (by rfl) ?_))
    refine rK (kN (rS (sg 3 J (qF U J fa249_1 (qL U J gA ((p3.1 _ _).trans J) ?_)))))
    refine qM U J (nK (rB ?_))
    refine rL (fun m env' s' => ∃ k a3 cp3, m = d - k ∧ k ≤ d ∧ Hd 70 [(30, .slice (some ⟨mb, 0, none⟩) n 1), (31, nv n), (32, nv j), (8, ptr (c + 19)), (12, ptr (c2 + 7)), (48, nv d), (49, nv k), (9, .slice a3 (ps.length + k) cp3)] env' ∧ SlR 3 1 ((ps ++ List.replicate k 0).map nv) a3 (ps.length + k) cp3 s'.heap.get ∧ ZrR z1 row1 a2 cp2 s'.heap.get ∧ (∀ x ∈ own a3, c ≤ x ∧ x < s'.ctr ∧ x ∉ own a2) ∧ s'.heap.get (c2 + 7) = some ⟨zrV z1 row1 a2 cp2 ++ [nv d, iv pl, nv 0], 249, 0⟩ ∧ s'.heap.get (c + 19) = some ⟨zrV z row a1 cp1, 247, 0⟩ ∧ cc1 ≤ s'.ctr ∧ Keep [] h c s') d ?_ ?_
    · exact ⟨0, ao, cpo, rfl, Nat.zero_le _, Ho U ⟨rfl, rfl, rfl, rfl, rfl, rfl, rfl, rfl, trivial⟩, by simpa using hSo6, hZ6, fun x hx => by have := hOo x hx; exact ⟨this.1, by dsimp only; omega, fun m => by have := hO2 x m; omega⟩, hb10, hb8', by dsimp only; omega, hK6.up (by omega)⟩
    rintro m _ ⟨h3, c3⟩ ⟨k, a3, cp3, rfl, hk, ⟨env, U, rfl⟩, hS3, hZ3, hO3, hb10, hb8', hc3, hK3⟩
    dsimp only at hS3 hZ3 hO3 hb10 hb8' hc3
    refine sg 1 J (qB U J J J (nK (rS ?_)))
    refine rC U rfl (fun hkd => ?_) (fun hkd => ?_)
    · try simp only [dz, dy] at hkd
      refine rK (kN (rS (rB (rg 4 J (qM U J (q1_ U J a171 J (qX U rfl rfl a171 a171 (hS3.move (fun z hz => by have := hO3 z hz; rw [T.get_set, if_neg oA])) ((T.get_set _ _ _ _).trans (if_pos rfl)) rfl oA oA ?_)))))))
      intro a4 cp4 h5 hS5 hO5 hF5
      have hn19 : c + 19 ∉ own a3 := own_ne hS3 hb8' (by dsimp only; decide)
      have hn7 : c2 + 7 ∉ own a3 := own_ne hS3 hb10 (by dsimp only; decide)
      have hkp : ∀ x, x < c3 → x ∉ own a3 → h5.get x = h3.get x := fun x hx hx2 => (hF5 x (by omega) hx2).trans (by rw [T.get_set, if_neg (by omega)])
      have e : (ps ++ List.replicate (k + 1) 0).map nv = (ps ++ List.replicate k 0).map nv ++ [nv 0] := by rw [List.replicate_succ', ← List.append_assoc, List.map_append]; rfl
      refine qA U J (rN (kO (kN (rg 2 J (qP U J J wA ?_)))))
      refine qM U J (nK ?_)
      exact ⟨d - (k + 1), by omega, k + 1, a4, cp4, rfl, by omega, Ho U ⟨rfl, rfl, rfl, rfl, rfl, rfl, rfl, rfl, trivial⟩, by rw [e]; exact hS5, hZ3.move (fun x hx => by have := hO2 x hx; exact hkp x (by omega) (fun m => (hO3 x m).2.2 hx)), fun x hx => by have := hO5 x hx; exact ⟨by omega, by dsimp only; omega, fun m => by have := hO2 x m; omega⟩, (hkp _ (by omega) hn7).trans hb10, (hkp _ (by omega) hn19).trans hb8', by dsimp only; omega, hK3.app2 hF5 (fun z hz => .inl (by have := hO3 z hz; omega)) (by omega) (by omega) (by omega)⟩
    · try simp only [dz, dy] at hkd
      have ek : k = d := by omega
      subst ek
      refine r_exit (kE (kE (kB (kN (rS (sg 3 J (qF U J fa249_2 (qL U J gA ((p3.1 _ _).trans J) ?_))))))))
      refine qB U J J J (nK ?_)
      refine rC U rfl (fun hpl0 => ?_) (fun hpl0 => ?_)
      · try simp only [dz, dy] at hpl0
        have hp0 : 0 < p := by rcases Nat.eq_zero_or_pos p with q | q; (subst q; simp at hpl; omega); exact q
        rw [if_neg (by omega)] at hpl
        rw [if_pos hp0] at hb1
        refine rg 6 J (qM U J (qF U J fa249_2 (qL U J gA ((p3.1 _ _).trans J) ?_)))
        refine q1_ U J a171 J (qX U rfl rfl a171 a171 (hS3.move (fun z hz => by have := hO3 z hz; rw [T.get_set, if_neg oA])) ((T.get_set _ _ _ _).trans (if_pos rfl)) rfl oA oA ?_)
        intro a4 cp4 h5 hS5 hO5 hF5
        have hn19 : c + 19 ∉ own a3 := own_ne hS3 hb8' (by dsimp only; decide)
        have hn7 : c2 + 7 ∉ own a3 := own_ne hS3 hb10 (by dsimp only; decide)
        have hkp : ∀ x, x < c3 → x ∉ own a3 → h5.get x = h3.get x := fun x hx hx2 => (hF5 x (by omega) hx2).trans (by rw [T.get_set, if_neg (by omega)])
        have hb85 := (hkp _ (by omega) hn19).trans hb8'
        have hb105 := (hkp _ (by omega) hn7).trans hb10
        have hZ5 := hZ3.move (g' := h5.get) (fun x hx => by have := hO2 x hx; exact hkp x (by omega) (fun m => (hO3 x m).2.2 hx))
        have e3 : (ps ++ places k p).length = ps.length + k + 1 := by simp [places, hp0]; omega
        have e4 : (ps ++ places k p).map nv = (ps ++ List.replicate k 0).map nv ++ [iv pl] := by rw [hpl]; simp [places, hp0]
        rw [← e4] at hS5
        have hn195 : c + 19 ∉ own a4 := fun m => by have := hO5 _ m; omega
        have hK5 := hK3.app2 hF5 (fun z hz => .inl (by have := hO3 z hz; omega)) (by omega) (by omega) (Nat.le_refl _)
        refine qA U J (nK (rg 3 J (qF U J fa249_0 (qL U J gA ((p247.1 _ _).trans J) ?_))))
        refine qV U rfl rfl gA p247 rfl rfl (by simp [Value.cells, zrV]) ?_
        refine rN (kO (kN (rg 2 J (qP U J J wA ?_))))
        refine qM U J (nK ?_)
        refine ⟨n - (j + 1), by omega, j + 1, z1, ps ++ places k p, row1, a2, cp2, a4, cp4, rfl, by omega, Ho U ⟨rfl, rfl, rfl, rfl, by rw [e3]; rfl, trivial⟩, hsn, by omega, by omega, ?_, hdone, hZ5.move (fun x hx => ?_), fun x hx => ?_, ?_, fun x hx => ?_, ?_, by dsimp only; omega, (hK5.set (.inl oA)).up oA⟩
        · have := hok.2.2.2.2.2; simp only [places, List.length_append, List.length_replicate]; split at this <;> simp_all <;> omega
        · have := hO2 x hx; dsimp only; rw [T.get_set, if_neg (by omega)]
        · have := hO2 x hx; dsimp only; omega
        · rw [e3]; exact hS5.move (fun x hx => by dsimp only; rw [T.get_set, if_neg (by intro q; rw [q] at hx; exact hn195 hx)])
        · have := hO5 x hx; dsimp only; exact ⟨by omega, by omega, fun m => by have := hO2 x m; omega⟩
        · dsimp only; rw [T.get_set, if_pos rfl]; rfl
      · try simp only [dz, dy] at hpl0
        have hp0 : p = 0 := by rcases Nat.eq_zero_or_pos p with q | q; exact q; (rw [if_neg (by omega)] at hpl; omega)
        have e3 : (ps ++ places k p).length = ps.length + k := by simp [places, hp0]
        have e4 : (ps ++ places k p).map nv = (ps ++ List.replicate k 0).map nv := by simp [places, hp0]
        rw [← e4] at hS3
        have hn195 : c + 19 ∉ own a3 := own_ne hS3 hb8' (by dsimp only; decide)
        refine rK (kN (rg 3 J (qF U J fa249_0 (qL U J gA ((p247.1 _ _).trans J) ?_))))
        refine qV U rfl rfl gA p247 rfl rfl (by simp [Value.cells, zrV]) ?_
        refine rN (kO (kN (rg 2 J (qP U J J wA ?_))))
        refine qM U J (nK ?_)
        refine ⟨n - (j + 1), by omega, j + 1, z1, ps ++ places k p, row1, a2, cp2, a3, cp3, rfl, by omega, Ho U ⟨rfl, rfl, rfl, rfl, by rw [e3]; rfl, trivial⟩, hsn, by omega, by omega, ?_, hdone, hZ3.move (fun x hx => ?_), fun x hx => ?_, ?_, fun x hx => ?_, ?_, by dsimp only; omega, (hK3.set (.inl oA)).up oA⟩
        · have := hok.2.2.2.2.2; simp only [places, List.length_append, List.length_replicate]; split at this <;> simp_all <;> omega
        · have := hO2 x hx; dsimp only; rw [T.get_set, if_neg (by omega)]
        · have := hO2 x hx; dsimp only; omega
        · rw [e3]; exact hS3.move (fun x hx => by dsimp only; rw [T.get_set, if_neg (by intro q; rw [q] at hx; exact hn195 hx)])
        · have := hO3 x hx; dsimp only; exact ⟨by omega, by omega, this.2.2⟩
        · dsimp only; rw [T.get_set, if_pos rfl]; rfl
  · try simp only [dz, dy] at hjn
    have ej : j = n := by omega
    subst ej
    rw [List.take_of_length_le (by omega), hp] at hps
    simp only [Option.some.injEq, Prod.mk.injEq] at hps
    obtain ⟨rfl, rfl⟩ := hps
    refine r_exit (kE (kE (kB (kN (rS (sg 3 J (qF U J fa247_4 (qL U J gA ((p4.1 _ _).trans J) ?_))))))))
    refine q_un U J J (nK (rF U rfl (by rw [hpd]; rfl) ?_))
    refine rK (kN (sg 3 J (qM U J (qA U J (qA U J (nK (rR (f_2 U J (.inl J) J J ?_))))))))
    exact ⟨⟨ao, cpo, rfl, hSo, fun z hz => by have := hOo z hz; dsimp only; omega⟩, hK.up (by omega)⟩
end
section
variable {ov : OvT} (H : OvH ov)
include H
theorem rNext_cr {h : Heap} {c n : Nat} {L : List Bool} (hL : L.length ≤ 1000) (hn : n ≤ 1000) :
    CR Tryz.prog ov 216 [.string (zs L), nv n] ⟨h, c⟩ (fun v st => v = .string (zs (nextL L n)) ∧ Same h c st) := by
  have hsz : (zs L).size = L.length := by rw [txt_size, zl_len]
  have hil := incL_len L
  refine e_2 Tryz.func216 rfl (H _ (by decide)) Tryz.ntmps216 (by decide) ?_
  intro env U
  refine sg 1 J (qA U J (nK (sg 1 J (qA U J (nK (sg 1 J (qA U J (nK (rS (sg 4 J (qM U J (qK U J Tryz.underlying9 ?_))))))))))))
  rw [hsz]
  refine q_sub U J J wA ?_
  refine qA U J (nK (rB ?_))
  refine rL (fun m env' s' => ∃ j, m = L.length - j ∧ j ≤ L.length ∧ Hd 38 [(0, .string (zs L)), (1, nv n), (7, iv ((L.length : Int) - 1 - j)), (5, .string (zs (incL (L.drop (L.length - j))).1)), (6, .bool (incL (L.drop (L.length - j))).2)] env' ∧ s'.heap = h ∧ c ≤ s'.ctr) L.length ?_ ?_
  · refine ⟨0, rfl, Nat.zero_le _, Ho U ⟨rfl, rfl, ?_, ?_, ?_, trivial⟩, rfl, by dsimp only; omega⟩
    · exact congrArg (fun z => some (Value.int .i64 z)) (by omega)
    · rw [Nat.sub_zero, List.drop_length]; rfl
    · rw [Nat.sub_zero, List.drop_length]; rfl
  rintro m _ ⟨h2, c2⟩ ⟨j, rfl, hj, ⟨env, U, rfl⟩, he, hc2⟩
  dsimp only at he hc2
  subst he
  refine rS (sg 2 J (qM U J (qB U J J J (nK ?_))))
  refine rC U rfl (fun hjn => ?_) (fun hjn => ?_)
  · try simp only [dz, dy] at hjn
    obtain ⟨t, ht⟩ : ∃ t, L[L.length - 1 - j]? = some t := ⟨_, List.getElem?_eq_getElem (by omega)⟩
    have hd := drop_cons ht
    rw [show L.length - 1 - j + 1 = L.length - j by omega] at hd
    have hd2 : L.drop (L.length - (j + 1)) = t :: L.drop (L.length - j) := by rw [show L.length - (j + 1) = L.length - 1 - j by omega]; exact hd
    obtain ⟨D, hD⟩ : ∃ D, D = incL (L.drop (L.length - j)) := ⟨_, rfl⟩
    have hDl : D.1.length = j := by rw [hD, incL_len, List.length_drop]; omega
    have hin : incL (L.drop (L.length - (j + 1))) = ((t != D.2) :: D.1, D.2 && t) := by rw [hd2, hD]; rfl
    rw [← hD]
    refine rK (kN (rS (rB (sg 5 J (qM U J (qM U J (qJ U rfl rfl Tryz.underlying9 oA (by have := txt_get (zl_get ht); rw [show ((L.length : Int) - 1 - j).toNat = L.length - 1 - j by omega]; exact this) ?_)))))))
    refine qB U rfl rfl (v := .bool t) (by cases t <;> rfl) ?_
    refine qA U J (nK (rS (sg 3 J (qM U J (qM U J (qB U rfl rfl (v := .bool (t != D.2)) (by simp only [evBin, evEq, Tryz.underlying4]; rfl) ?_))))))
    refine nK ?_
    refine rC U rfl (fun hne => ?_) (fun hne => ?_)
    · try simp only [dz, dy] at hne
      have hne : (t != D.2) = true := by simpa using hne
      refine rg 3 J (qM U J (qB U rfl rfl (addS [49] (zl D.1) (by rw [zl_len, hDl]; simp; omega)) ?_))
      refine qA U J (nK (rg 5 J (qM U J (qM U J ?_))))
      refine q_case U (rfl : lk _ _ 28 = _) (fun hg => ?_) (fun hg => ?_)
      · have hg_ := hg
        try simp only [dz] at hg_
        refine qG U J J J hg (qM U J (qQ U J J J (if_pos hg) (qA U J (rN (kO (kN (rg 3 J (qM U J (q_sub U J J wA ?_)))))))))
        refine qA U J (nK ?_)
        refine ⟨L.length - (j + 1), by omega, j + 1, rfl, by omega, Ho U ⟨rfl, rfl, ?_, ?_, ?_, trivial⟩, rfl, by dsimp only; omega⟩
        · exact congrArg (fun z => some (Value.int .i64 z)) (by omega)
        · rw [hin, hne]; rfl
        · rw [hin, hg]; rfl
      · have hg_ := hg
        try simp only [dz] at hg_
        refine qS U rfl rfl rfl rfl (by rw [hg]; decide) ?_
        refine qQ U rfl rfl rfl (if_neg (by rw [hg]; decide)) ?_
        refine qA U J (rN (kO (kN (rg 3 J (qM U J (q_sub U J J wA ?_))))))
        refine qA U J (nK ?_)
        refine ⟨L.length - (j + 1), by omega, j + 1, rfl, by omega, Ho U ⟨rfl, rfl, ?_, ?_, ?_, trivial⟩, rfl, by dsimp only; omega⟩
        · exact congrArg (fun z => some (Value.int .i64 z)) (by omega)
        · rw [hin, hne]; rfl
        · rw [hin, hg]; rfl
    · try simp only [dz, dy] at hne
      have hne : (t != D.2) = false := by simpa using hne
      refine rg 3 J (qM U J (qB U rfl rfl (addS [48] (zl D.1) (by rw [zl_len, hDl]; simp; omega)) ?_))
      refine qA U J (nK (rg 5 J (qM U J (qM U J ?_))))
      refine q_case U (rfl : lk _ _ 28 = _) (fun hg => ?_) (fun hg => ?_)
      · have hg_ := hg
        try simp only [dz] at hg_
        refine qG U J J J hg (qM U J (qQ U J J J (if_pos hg) (qA U J (rN (kO (kN (rg 3 J (qM U J (q_sub U J J wA ?_)))))))))
        refine qA U J (nK ?_)
        refine ⟨L.length - (j + 1), by omega, j + 1, rfl, by omega, Ho U ⟨rfl, rfl, ?_, ?_, ?_, trivial⟩, rfl, by dsimp only; omega⟩
        · exact congrArg (fun z => some (Value.int .i64 z)) (by omega)
        · rw [hin, hne]; rfl
        · rw [hin, hg]; rfl
      · have hg_ := hg
        try simp only [dz] at hg_
        refine qS U rfl rfl rfl rfl (by rw [hg]; decide) ?_
        refine qQ U rfl rfl rfl (if_neg (by rw [hg]; decide)) ?_
        refine qA U J (rN (kO (kN (rg 3 J (qM U J (q_sub U J J wA ?_))))))
        refine qA U J (nK ?_)
        refine ⟨L.length - (j + 1), by omega, j + 1, rfl, by omega, Ho U ⟨rfl, rfl, ?_, ?_, ?_, trivial⟩, rfl, by dsimp only; omega⟩
        · exact congrArg (fun z => some (Value.int .i64 z)) (by omega)
        · rw [hin, hne]; rfl
        · rw [hin, hg]; rfl
  · try simp only [dz, dy] at hjn
    have ej : j = L.length := by omega
    subst ej
    rw [Nat.sub_self, List.drop_zero]
    refine r_exit (kE (kE (kB (kN (rS (rB ?_))))))
    refine rL (fun m env' s' => ∃ k, m = n - L.length - k ∧ k ≤ n - L.length ∧ Hd 38 [(1, nv n), (5, .string (zs ((incL L).1 ++ List.replicate k false)))] env' ∧ s'.heap = h2 ∧ c ≤ s'.ctr) (n - L.length) ?_ ?_
    · exact ⟨0, rfl, Nat.zero_le _, Ho U ⟨rfl, by simp only [List.replicate_zero, List.append_nil]; rfl, trivial⟩, rfl, by dsimp only; omega⟩
    rintro m _ ⟨h3, c3⟩ ⟨k, rfl, hk, ⟨env, U, rfl⟩, he, hc3⟩
    dsimp only at he hc3
    subst he
    refine rS (sg 4 J (qM U J (qK U J Tryz.underlying9 ?_)))
    rw [txt_size, zl_len, List.length_append, List.length_replicate, hil]
    refine qM U J (qB U J J J (nK ?_))
    refine rC U rfl (fun hkn => ?_) (fun hkn => ?_)
    · try simp only [dz, dy] at hkn
      refine rK (kN (rB (rg 3 J (qM U J (qB U rfl rfl (addS _ [48] (by rw [zl_len, List.length_append, List.length_replicate, hil]; simp; omega)) ?_)))))
      refine qA U J (rN (kO (kN ?_)))
      refine ⟨n - L.length - (k + 1), by omega, k + 1, rfl, by omega, Ho U ⟨rfl, ?_, trivial⟩, rfl, by dsimp only; omega⟩
      show some (Value.string (txt (zl ((incL L).1 ++ List.replicate k false) ++ [48]))) = some (Value.string (txt (zl ((incL L).1 ++ List.replicate (k + 1) false))))
      rw [List.replicate_succ', ← List.append_assoc, zl_app (_ ++ _) [false]]; rfl
    · try simp only [dz, dy] at hkn
      refine r_exit (kE (kE (kB (kN (sg 2 J (qM U J (qA U J (nK (rR (f_1 U J (.inl J) J ?_))))))))))
      have ek : k = n - L.length := by omega
      subst ek
      exact ⟨rfl, rfl, by dsimp only; omega⟩
abbrev sv (b : List Bool) : Value := .string (zs b)
theorem rGet_cr {h : Heap} {c n cp : Nat} {cs : List (List Bool)} {A : List Bool} {a : Option Addr} (hS : SlR 9 1 (cs.map sv) a n cp h.get) (hn : n ≤ 1000) :
    CR Tryz.prog ov 178 [.slice a n cp, .string (zs A)] ⟨h, c⟩ (fun v st => v = (match cs.findIdx? (begB A) with | some i => nv i | none => iv (-1)) ∧ Same h c st) := by
  have hln : cs.length = n := by have := hS.len; simpa using this
  refine e_2 Tryz.func178 rfl (H _ (by decide)) Tryz.ntmps178 (by decide) ?_
  intro env U
  refine sg 1 J (qA U J (nK (rS (sg 3 J (qM U J (q_lenL U J Tryz.underlying244 (qM U J (nK (rB ?_)))))))))
  refine rL (fun m env' s' => ∃ j, m = n - j ∧ j ≤ n ∧ Hd 19 [(1, .string (zs A)), (7, .slice a n cp), (8, nv n), (9, nv j)] env' ∧ (∀ i, i < j → ∀ b, cs[i]? = some b → begB A b = false) ∧ s'.heap = h ∧ c ≤ s'.ctr) n ?_ ?_
  · exact ⟨0, rfl, Nat.zero_le _, Ho U ⟨rfl, rfl, rfl, rfl, trivial⟩, fun i hi => by omega, rfl, by dsimp only; omega⟩
  rintro m _ ⟨h2, c2⟩ ⟨j, rfl, hj, ⟨env, U, rfl⟩, hno, he, hc2⟩
  dsimp only at he hc2
  subst he
  refine sg 1 J (qB U J J J (nK (rS ?_)))
  refine rC U rfl (fun hjn => ?_) (fun hjn => ?_)
  · try simp only [dz, dy] at hjn
    obtain ⟨x, hx1⟩ : ∃ x, cs[j]? = some x := ⟨_, List.getElem?_eq_getElem (by omega)⟩
    obtain ⟨mb, rfl, rfl, hmb⟩ := hS.pos (by omega)
    refine rK (kN (rS (rB (sg 5 J (qM U J (qI U rfl rfl e244 ⟨by omega, by omega⟩ ?_))))))
    refine qL U rfl aA ((p9.1 _ _).trans (by simp [hx1])) (v := sv x) ?_
    refine qA U J (qA U J (nK (sg 3 J (qM U J (qM U J (qC U J (CR.mono (rBegins_cr H) ?_)))))))
    rintro v ⟨hh1, cc1⟩ ⟨rfl, rfl, hk⟩
    try dsimp only at hk
    refine nK ?_
    refine rC U rfl (fun hbe => ?_) (fun hbe => ?_)
    · try simp only [dz, dy] at hbe
      refine sg 2 J (qM U J (qA U J (nK (rR (k_bloR (kR (kR (k_bloR (kR (f_1 U J (.inl J) J ?_))))))))))
      have e1 : cs.findIdx? (begB A) = some j := by rw [List.findIdx?_eq_some_iff_getElem]; refine ⟨by omega, ?_, fun i hi => ?_⟩; (rw [List.getElem?_eq_getElem (by omega)] at hx1; cases hx1; exact hbe); (intro q; have := hno i hi _ (List.getElem?_eq_getElem (by omega)); rw [this] at q; cases q)
      rw [e1]
      exact ⟨rfl, rfl, by dsimp only at *; omega⟩
    · try simp only [dz, dy] at hbe
      refine rK (kO (kN (rg 2 J (qP U J J wA ?_))))
      refine qM U J (nK ?_)
      exact ⟨n - (j + 1), by omega, j + 1, rfl, by omega, Ho U ⟨rfl, rfl, rfl, rfl, trivial⟩, fun i hi b hb => by by_cases q : i = j; (subst q; rw [hx1] at hb; cases hb; exact hbe); exact hno i (by omega) b hb, rfl, by dsimp only at *; omega⟩
  · try simp only [dz, dy] at hjn
    refine r_exit (kE (kE (kB (kN (sg 1 J (qA U J (nK (rR (f_1 U J (.inl J) J ?_)))))))))
    have e1 : cs.findIdx? (begB A) = none := by rw [List.findIdx?_eq_none_iff]; intro x hx; obtain ⟨i, hi⟩ := List.getElem?_of_mem hx; exact hno i (by have := (List.getElem?_eq_some_iff.mp hi).1; omega) x hi
    rw [e1]
    exact ⟨rfl, rfl, by dsimp only; omega⟩
end
def partC (l : List Nat) (n i : Nat) : List (List Bool) := (List.range l.length).map fun s => if l.getD s 0 < n ∨ (l.getD s 0 = n ∧ s < i) then codeB l s else []
theorem partC_len (l : List Nat) (n i : Nat) : (partC l n i).length = l.length := by simp [partC]
theorem partC_1 {l : List Nat} (h : ∀ x ∈ l, 1 ≤ x ∧ x ≤ 20) : partC l 1 0 = List.replicate l.length [] := by
  apply List.ext_getElem?; intro s
  simp only [partC, List.getElem?_map, List.getElem?_replicate]
  by_cases hs : s < l.length
  · rw [List.getElem?_range hs, if_pos hs]
    have := (h (l.getD s 0) (by rw [List.getD_eq_getElem?_getD, List.getElem?_eq_getElem hs]; exact List.getElem_mem hs)).1
    simp only [Option.map_some]; rw [if_neg (by omega)]
  · rw [if_neg hs, List.getElem?_eq_none (by simp; omega)]; rfl
theorem partC_21 {l : List Nat} (h : ∀ x ∈ l, 1 ≤ x ∧ x ≤ 20) : partC l 21 0 = codesL l := by
  apply List.map_congr_left; intro s hs
  have hs : s < l.length := by simpa using hs
  have := (h (l.getD s 0) (by rw [List.getD_eq_getElem?_getD, List.getElem?_eq_getElem hs]; exact List.getElem_mem hs)).2
  rw [if_pos (.inl (by omega))]
theorem partC_up (l : List Nat) (n : Nat) : partC l (n + 1) 0 = partC l n l.length := by
  apply List.map_congr_left; intro s hs
  have hs : s < l.length := by simpa using hs
  by_cases q : l.getD s 0 < n + 1
  · rw [if_pos (.inl q), if_pos]; rcases Nat.lt_or_ge (l.getD s 0) n with q2 | q2; exact .inl q2; exact .inr ⟨by omega, hs⟩
  · rw [if_neg (by omega), if_neg (by omega)]
theorem partC_no {l : List Nat} {n i x : Nat} (hx : l[i]? = some x) (hn : x ≠ n) : partC l n (i + 1) = partC l n i := by
  apply List.map_congr_left; intro s hs
  have e : l.getD i 0 = x := by rw [List.getD_eq_getElem?_getD, hx]; rfl
  by_cases q : s = i
  · subst q; rw [e]
    by_cases q2 : x < n
    · rw [if_pos (.inl q2), if_pos (.inl q2)]
    · rw [if_neg (by omega), if_neg (by omega)]
  · by_cases q2 : l.getD s 0 < n ∨ (l.getD s 0 = n ∧ s < i)
    · rw [if_pos q2, if_pos]; rcases q2 with q2 | q2; exact .inl q2; exact .inr ⟨q2.1, by omega⟩
    · rw [if_neg q2, if_neg]; intro q3; apply q2; rcases q3 with q3 | q3; exact .inl q3; exact .inr ⟨q3.1, by omega⟩
theorem partC_set {l : List Nat} {n i : Nat} (hx : l[i]? = some n) : partC l n (i + 1) = (partC l n i).set i (codeB l i) := by
  have hi : i < l.length := (List.getElem?_eq_some_iff.mp hx).1
  have e : l.getD i 0 = n := by rw [List.getD_eq_getElem?_getD, hx]; rfl
  apply List.ext_getElem?; intro s
  rw [List.getElem?_set]
  simp only [partC, List.getElem?_map, List.length_map, List.length_range]
  by_cases hs : s < l.length
  · rw [List.getElem?_range hs]
    simp only [Option.map_some]
    by_cases q : i = s
    · subst q; rw [if_pos rfl, if_pos hs, if_pos (.inr ⟨e, by omega⟩)]
    · rw [if_neg q]
      by_cases q2 : l.getD s 0 < n ∨ (l.getD s 0 = n ∧ s < i)
      · rw [if_pos q2, if_pos]; rcases q2 with q2 | q2; exact .inl q2; exact .inr ⟨q2.1, by omega⟩
      · rw [if_neg q2, if_neg]; intro q3; apply q2; rcases q3 with q3 | q3; exact .inl q3; exact .inr ⟨q3.1, by omega⟩
  · rw [if_neg (by omega), List.getElem?_eq_none (by simp; omega)]; rfl
theorem rank_step {l : List Nat} {n i x : Nat} (hx : l[i]? = some x) : rank l (i + 1) n = rank l i n + if x = n then 1 else 0 := by
  simp only [rank, those_take hx]; split <;> simp
theorem rank_all (l : List Nat) (n : Nat) : rank l l.length n = (those l n).length := by
  simp only [rank, those]; rw [List.take_of_length_le (by simp)]
def CodeSt (l : List Nat) (n i : Nat) (code : List Bool) : Prop :=
  (code = [] ∧ firstC l n + rank l i n = 0) ∨ ∃ k v, code = bitsN k v ∧ 1 ≤ k ∧ k ≤ n ∧ (v + 1) * 2 ^ (n - k) = firstC l n + rank l i n
theorem CodeSt.up {l : List Nat} {n : Nat} {code : List Bool} (h : CodeSt l n l.length code) : CodeSt l (n + 1) 0 code := by
  have e : firstC l (n + 1) + rank l 0 (n + 1) = 2 * (firstC l n + rank l l.length n) := by rw [rank_all]; simp [firstC, rank, idx]
  rcases h with ⟨h1, h2⟩ | ⟨k, v, h1, h2, h3, h4⟩
  · exact .inl ⟨h1, by rw [e, h2]⟩
  · exact .inr ⟨k, v, h1, h2, by omega, by rw [e, ← h4, show n + 1 - k = (n - k) + 1 by omega, Nat.pow_succ, ← Nat.mul_assoc, Nat.mul_comm]⟩
theorem CodeSt.no {l : List Nat} {n i x : Nat} {code : List Bool} (hx : l[i]? = some x) (hn : x ≠ n) (h : CodeSt l n i code) : CodeSt l n (i + 1) code := by
  simp only [CodeSt, rank_step hx, if_neg hn, Nat.add_zero]; exact h
theorem CodeSt.told {l : List Nat} {n i : Nat} (hx : l[i]? = some n) (hn : 1 ≤ n) : CodeSt l n (i + 1) (codeB l i) := by
  refine .inr ⟨n, firstC l n + rank l i n, codeB_of hx, hn, Nat.le_refl _, ?_⟩
  rw [rank_step hx, if_pos rfl, Nat.sub_self]; omega
theorem bitsN_0 (n : Nat) : bitsN n 0 = List.replicate n false := by
  have := bitsN_pad 0 0 n; simpa [bitsN] using this
theorem CodeSt.first {l : List Nat} {n i : Nat} (hx : l[i]? = some n) (h : CodeSt l n i []) : codeB l i = List.replicate n false := by
  rcases h with ⟨_, h2⟩ | ⟨k, v, h1, h2, _⟩
  · rw [codeB_of hx, h2, bitsN_0]
  · have := congrArg List.length h1; rw [bitsN_len] at this; simp at this; omega
theorem CodeSt.next {l : List Nat} {n i : Nat} {code : List Bool} (hx : l[i]? = some n) (hne : code ≠ []) (h : CodeSt l n i code) : codeB l i = nextL code n := by
  rcases h with ⟨h1, _⟩ | ⟨k, v, rfl, h2, h3, h4⟩
  · exact absurd h1 hne
  · rw [codeB_of hx, nextL_bits h3, h4]
theorem CodeSt.len {l : List Nat} {n i : Nat} {code : List Bool} (h : CodeSt l n i code) : code.length ≤ n := by
  rcases h with ⟨rfl, _⟩ | ⟨k, v, rfl, h2, h3, _⟩
  · simp
  · rw [bitsN_len]; exact h3
section
variable {ov : OvT} (H : OvH ov)
include H
theorem rCodesOf_cr {h : Heap} {c n cp : Nat} {l : List Nat} {a : Option Addr} (hS : SlR 3 1 (l.map nv) a n cp h.get) (hc : ∀ z ∈ own a, z < c) (hn : 3 ≤ n ∧ n ≤ 258) (hx : ∀ x ∈ l, 1 ≤ x ∧ x ≤ 20) :
    CR Tryz.prog ov 193 [.slice a n cp] ⟨h, c⟩ (fun v st => ∃ b, v = .slice (some ⟨b, 0, none⟩) n 1 ∧ st.heap.get b = some ⟨(codesL l).map sv, 9, 1⟩ ∧ c ≤ b ∧ b < st.ctr ∧ Keep [] h c st) := by
  have hln : l.length = n := by have := hS.len; simpa using this
  obtain ⟨mb, rfl, rfl, hmb⟩ := hS.pos (by omega)
  have hmc := hc mb (by simp [own])
  refine e_1 Tryz.func193 rfl (H _ (by decide)) Tryz.ntmps193 (by decide) ?_
  intro env U
  refine sg 1 J (qA U J (nK (sg 4 J (qM U J (q_lenL U J Tryz.underlying171 (q_makeSlice U J J Tryz.underlying244 i9 z9 J s9 b9 J oA oA ?_))))))
  refine qA U J (nK (sg 1 J (qA U J (nK (rS (sg 1 J (qA U J (nK (rB ?_)))))))))
  refine rL (fun m env' s' => ∃ nn code, m = 21 - nn ∧ 1 ≤ nn ∧ nn ≤ 21 ∧ Hd 42 [(0, .slice (some ⟨mb, 0, none⟩) n 1), (3, .slice (some ⟨c + 3, 0, none⟩) n 1), (5, nv nn), (4, .string (zs code))] env' ∧ CodeSt l nn 0 code ∧ s'.heap.get (c + 3) = some ⟨(partC l nn 0).map sv, 9, 1⟩ ∧ c + 5 ≤ s'.ctr ∧ Keep [] h c s') 20 ?_ ?_
  · refine ⟨1, [], rfl, by omega, by omega, Ho U ⟨rfl, rfl, rfl, rfl, trivial⟩, .inl ⟨rfl, ?_⟩, ?_, by dsimp only; omega, ((Keep.refl (Nat.le_refl c)).set (.inl oA)).up oA⟩
    · simp [firstC, rank, idx, those0 (fun x q => (hx x q).1)]
    · dsimp only; rw [T.get_set, if_pos (by omega), partC_1 hx, hln, List.map_replicate]; rfl
  rintro m _ ⟨h2, c2⟩ ⟨nn, code, rfl, hn1, hn2, ⟨env, U, rfl⟩, hst, hb3, hc2, hK⟩
  dsimp only at hb3 hc2
  refine rS (sg 2 J (qM U J (qB U J J J (nK ?_))))
  refine rC U rfl (fun hnn => ?_) (fun hnn => ?_)
  · try simp only [dz, dy] at hnn
    refine rK (kN (rS (rB (sg 3 J (qM U J (q_lenL U J Tryz.underlying171 (qM U J (nK (rB ?_)))))))))
    refine rL (fun m env' s' => ∃ i code, m = n - i ∧ i ≤ n ∧ Hd 42 [(0, .slice (some ⟨mb, 0, none⟩) n 1), (3, .slice (some ⟨c + 3, 0, none⟩) n 1), (5, nv nn), (4, .string (zs code)), (15, .slice (some ⟨mb, 0, none⟩) n 1), (16, nv n), (17, nv i)] env' ∧ CodeSt l nn i code ∧ s'.heap.get (c + 3) = some ⟨(partC l nn i).map sv, 9, 1⟩ ∧ c2 ≤ s'.ctr ∧ Keep [] h c s') n ?_ ?_
    · exact ⟨0, code, rfl, Nat.zero_le _, Ho U ⟨rfl, rfl, rfl, rfl, rfl, rfl, rfl, trivial⟩, hst, hb3, by dsimp only; omega, hK.up (by omega)⟩
    rintro m _ ⟨h3, c3⟩ ⟨i, code, rfl, hi, ⟨env, U, rfl⟩, hst, hb3, hc3, hK⟩
    dsimp only at hb3 hc3
    refine sg 1 J (qB U J J J (nK (rS ?_)))
    refine rC U rfl (fun hin => ?_) (fun hin => ?_)
    · try simp only [dz, dy] at hin
      obtain ⟨x, hx1⟩ : ∃ x, l[i]? = some x := ⟨_, List.getElem?_eq_getElem (by omega)⟩
      have hx2 := hx x (List.mem_of_getElem? hx1)
      have hmb3 := (hK.2 mb hmc (by simp)).trans hmb
      refine rK (kN (rS (rB (sg 5 J (qM U J (qI U rfl rfl e171 ⟨by omega, by omega⟩ ?_))))))
      refine qL U rfl gA ((p3.1 _ _).trans (by simp [hx1])) (v := nv x) ?_
      refine qA U J (qA U J (nK (rS (sg 3 J (qM U J (qM U J (qB U J J J (nK ?_))))))))
      refine rC U rfl (fun hne => ?_) (fun hne => ?_)
      · try simp only [dz, dy] at hne
        refine r_exit (kE (kB (kN (rg 2 J (qP U J J wA ?_)))))
        refine qM U J (nK ?_)
        exact ⟨n - (i + 1), by omega, i + 1, code, rfl, by omega, Ho U ⟨rfl, rfl, rfl, rfl, rfl, rfl, rfl, trivial⟩, hst.no hx1 (by omega), by rw [partC_no hx1 (by omega)]; exact hb3, by dsimp only; omega, hK.up (by omega)⟩
      · try simp only [dz, dy] at hne
        have hxe : x = nn := by simp at hne; omega
        subst hxe
        have hlen := hst.len
        refine rK (kN (rS (sg 2 J (qM U J (qB U J J (v := .bool (code == [])) (congrArg (fun b => some (Value.bool b)) (zs_eq code [])) (nK ?_))))))
        refine rC U rfl (fun hz => ?_) (fun hz => ?_)
        · try simp only [dz, dy] at hz
          have hz0 : code = [] := by simpa using hz
          subst hz0
          have hcb := hst.first hx1
          refine sg 2 J (qM U J (qM U J (nK (rB ?_))))
          refine rL (fun m env' s' => ∃ k, m = x - k ∧ k ≤ x ∧ Hd 42 [(0, .slice (some ⟨mb, 0, none⟩) n 1), (3, .slice (some ⟨c + 3, 0, none⟩) n 1), (5, nv x), (15, .slice (some ⟨mb, 0, none⟩) n 1), (16, nv n), (17, nv i), (6, nv i), (27, nv x), (28, nv k), (4, .string (zs (List.replicate k false)))] env' ∧ s'.heap = h3 ∧ c3 ≤ s'.ctr) x ?_ ?_
          · exact ⟨0, rfl, Nat.zero_le _, Ho U ⟨rfl, rfl, rfl, rfl, rfl, rfl, rfl, rfl, rfl, rfl, trivial⟩, rfl, by dsimp only; omega⟩
          rintro m _ ⟨h4, c4⟩ ⟨k, rfl, hk, ⟨env, U, rfl⟩, he, hc4⟩
          dsimp only at he hc4
          subst he
          refine sg 1 J (qB U J J J (nK (rS ?_)))
          refine rC U rfl (fun hkx => ?_) (fun hkx => ?_)
          · try simp only [dz, dy] at hkx
            refine rK (kN (rS (rB (rg 3 J (qM U J (qB U rfl rfl (addS _ [48] (by rw [zl_len, List.length_replicate]; simp; omega)) ?_))))))
            refine qA U J (rN (kO (kN (rg 2 J (qP U J J wA ?_)))))
            refine qM U J (nK ?_)
            refine ⟨x - (k + 1), by omega, k + 1, rfl, by omega, Ho U ⟨rfl, rfl, rfl, rfl, rfl, rfl, rfl, rfl, rfl, ?_, trivial⟩, rfl, by dsimp only; omega⟩
            show some (Value.string (txt (zl (List.replicate k false) ++ [48]))) = some (Value.string (txt (zl (List.replicate (k + 1) false))))
            rw [List.replicate_succ', zl_app _ [false]]; rfl
          · try simp only [dz, dy] at hkx
            have ek : k = x := by omega
            subst ek
            rw [← hcb]
            refine r_exit (kE (kE (kB (kN (rg 5 J (qM U J (qM U J (qM U J (qI U rfl rfl e244 ⟨by omega, by omega⟩ ?_)))))))))
            refine qW U rfl rfl gA p9 rfl rfl (by simp [partC_len]; omega) ?_
            refine rN (kO (kN (rg 2 J (qP U J J wA ?_))))
            refine qM U J (nK ?_)
            refine ⟨n - (i + 1), by omega, i + 1, codeB l i, rfl, by omega, Ho U ⟨rfl, rfl, rfl, rfl, rfl, rfl, rfl, trivial⟩, .told hx1 hx2.1, ?_, by dsimp only; omega, (hK.set (.inl oA)).up oA⟩
            dsimp only; rw [T.get_set, if_pos (by omega), partC_set hx1, List.map_set, show 0 + ((i : Nat) : Int).toNat * 1 = i by omega]
        · try simp only [dz, dy] at hz
          have hcb := hst.next hx1 (by simpa using hz)
          refine rg 4 J (qM U J (qM U J (qC U J (CR.mono (rNext_cr H oA oA) ?_))))
          rintro v ⟨hh1, cc1⟩ ⟨rfl, rfl, hk⟩
          try dsimp only at hk
          rw [← hcb]
          refine qA U J (nK (rg 5 J (qM U J (qM U J (qM U J (qI U rfl rfl e244 ⟨by omega, by omega⟩ ?_))))))
          refine qW U rfl rfl gA p9 rfl rfl (by simp [partC_len]; omega) ?_
          refine rN (kO (kN (rg 2 J (qP U J J wA ?_))))
          refine qM U J (nK ?_)
          refine ⟨n - (i + 1), by omega, i + 1, codeB l i, rfl, by omega, Ho U ⟨rfl, rfl, rfl, rfl, rfl, rfl, rfl, trivial⟩, .told hx1 hx2.1, ?_, by dsimp only at *; omega, (hK.set (.inl oA)).up (by dsimp only at *; omega)⟩
          dsimp only; rw [T.get_set, if_pos (by omega), partC_set hx1, List.map_set, show 0 + ((i : Nat) : Int).toNat * 1 = i by omega]
    · try simp only [dz, dy] at hin
      have ei : i = n := by omega
      subst ei
      rw [← hln, ← partC_up] at hb3
      refine r_exit (kE (kE (kB (kO (kN (rg 3 J (qM U J (qP U J J wA ?_))))))))
      refine qA U J (nK ?_)
      exact ⟨21 - (nn + 1), by omega, nn + 1, code, rfl, by omega, by omega, Ho U ⟨rfl, rfl, rfl, rfl, trivial⟩, by rw [← hln] at hst; exact hst.up, hb3, by dsimp only; omega, hK.up (by omega)⟩
  · try simp only [dz, dy] at hnn
    have en : nn = 21 := by omega
    subst en
    rw [partC_21 hx] at hb3
    refine r_exit (kE (kE (kB (kN (sg 2 J (qM U J (qA U J (nK (rR (f_1 U J (.inl J) J ?_))))))))))
    exact ⟨c + 3, rfl, hb3, by omega, by dsimp only; omega, hK.up (by omega)⟩
end
theorem zl_sub (L : List Bool) (a b : Nat) : ((zl L).drop a).take b = zl ((L.drop a).take b) := by simp [zl, List.map_take, List.map_drop]
theorem zl_rest (L : List Bool) (n : Nat) : ((zl L).drop n).take ((zl L).length - n) = zl (L.drop n) := by
  rw [zl_sub, zl_len, List.take_of_length_le (by rw [List.length_drop]; omega)]
theorem ones_take : ∀ (l : List Bool) (t : Nat), ones (l.take t) = min (ones l) t
  | [], t => by simp [ones]
  | b :: l, 0 => by simp [ones]
  | true :: l, t + 1 => by simp only [List.take_succ_cons, ones, ones_take l t]; omega
  | false :: l, t + 1 => by simp [ones]
theorem moved_map {o : List Nat} {i : Nat} (hi : i < o.length) (f : Nat → Nat) : moved (o.map f) i = (moved o i).map f := by
  simp only [moved, List.eraseIdx_eq_take_drop_succ, List.map_cons, List.map_append, List.map_take, List.map_drop, List.getD_eq_getElem?_getD, List.getElem?_map, List.getElem?_eq_getElem hi, Option.map_some, Option.getD_some]
def pkF (p : Pk) (_ : List Bool) : Bool := p.done
theorem Pk.none_good : Pk.none.good := ⟨rfl, by decide, by decide, by decide, by decide, by simp [Pk.none], fun i hi => by simp [Pk.none] at hi, fun _ => rfl⟩
theorem Pk.step_good {p p' : Pk} {l : List Bool} {n : Nat} (hg : p.good) (hd : p.done = false) (h : p.step l = .ok (p', n)) : p'.good ∧ p'.count ≠ 0 ∧ 2 ≤ p'.t ∨ p'.good ∧ p'.t = p.t ∧ p'.count = p.count := by
  obtain ⟨g1, g2, g3, g4, g5, g6, g7, g8⟩ := hg
  simp only [Pk.step] at h
  split at h
  · rename_i h0
    simp only [Pk.head] at h
    split at h
    · cases h
    · split at h
      · cases h
      · rename_i q1 q2
        cases h
        have e15 : ((l.drop 3).take 15).length = 15 := by rw [List.length_take, List.length_drop]; omega
        have := num_lt ((l.drop 3).take 15); rw [e15] at this
        have hp0 : p.picks = [] := List.eq_nil_of_length_eq_zero (by omega)
        refine .inl ⟨⟨g1, g2, by dsimp only; omega, by dsimp only; omega, by dsimp only; omega, by dsimp only; rw [hp0]; simp, fun i hi => ?_, fun q => g8 h0⟩, by dsimp only; omega, by dsimp only; omega⟩
        dsimp only at hi ⊢; rw [g8 h0]
        rcases (by omega : i = 0 ∨ i = 1 ∨ i = 2 ∨ i = 3 ∨ i = 4 ∨ i = 5) with q | q | q | q | q | q <;> subst q <;> simp <;> omega
  · rename_i h0
    simp only [Pk.pick] at h
    split at h
    · cases h
    · split at h
      · cases h
      · rename_i q1 q2
        cases h
        have hk : ones (l.take p.t) < p.t := by rw [ones_take] at q1 ⊢; omega
        have hlt : p.picks.length ≠ p.count := by
          intro q; simp only [Pk.done, q, beq_self_eq_true, Bool.and_true, decide_eq_false_iff_not] at hd; omega
        refine .inr ⟨⟨by rw [moved_len oA]; exact g1, fun x hx => g2 x (moved_mem oA hx), g3, g4, by dsimp only; rw [List.length_append]; simp; omega, fun x hx => ?_, fun i hi => moved_getD oA hk g7 hi, fun q => absurd q h0⟩, rfl, rfl⟩
        rcases List.mem_append.mp hx with q | q
        · exact g6 x q
        · simp only [List.mem_singleton] at q; rw [q]; exact g7 _ hk
section
variable {ov : OvT} (H : OvH ov)
include H
theorem rPicks_cr {h : Heap} {c : Nat} {L : List Bool} (hL : L.length ≤ 1000000) :
    CR Tryz.prog ov 176 [.string (zs L)] ⟨h, c⟩ (fun v st => (∃ r, Runs Pk.step pkF L Pk.none 0 r ∧ match r with
      | .ok (p, n) => p.good ∧ p.done = true ∧ n ≤ L.length ∧ ∃ a cp to, v = .agg #[.slice a p.picks.length cp, nv p.t, nv n, nv to, nv 0] ∧ SlR 3 1 (p.picks.map nv) a p.picks.length cp st.heap.get ∧ (∀ z ∈ own a, c ≤ z ∧ z < st.ctr)
      | .error e => e ≠ 0 ∧ ∃ to, v = .agg #[nilS, nv 0, nv 0, nv to, nv e]) ∧ Keep [] h c st) := by
  have hsz : (zs L).size = L.length := by rw [txt_size, zl_len]
  have hf0 : pkF Pk.none (L.drop 0) = false := rfl
  have hK1 : Keep [] h c ⟨h.set c ⟨[nilS, nv 0, nv 0, nv 0, nv 0], 238, 0⟩, c⟩ := (Keep.refl (Nat.le_refl c)).set (.inl (by omega))
  have hst : Pk.none.step (L.drop 0) = if L.length < 18 then .error 3 else if num (L.take 3) < 2 ∨ 6 < num (L.take 3) ∨ num ((L.drop 3).take 15) = 0 then .error 25 else .ok (⟨num (L.take 3), num ((L.drop 3).take 15), [0, 1, 2, 3, 4, 5], []⟩, 18) := rfl
  have e3 := num_lt (L.take 3)
  have e15 := num_lt ((L.drop 3).take 15)
  refine e_1 Tryz.func176 rfl (H _ (by decide)) Tryz.ntmps176 (by decide) ?_
  intro env U
  refine sg 1 J (qZ i238 z238 J (nK (rS (sg 3 J (qM U J (qK U J Tryz.underlying9 ?_))))))
  rw [hsz]
  refine qB U J J J (nK ?_)
  refine rC U rfl (fun h18 => ?_) (fun h18 => ?_)
  · try simp only [dz, dy] at h18
    refine sg 2 J (qU U rfl i238 z238 rfl (by simp [Program.built, Instr.fill, Tryz.underlying238, Value.cells]; rfl) ?_)
    refine qV U rfl rfl gA p238 rfl rfl (by simp [Value.cells]) ?_
    refine nK (rR (kR (f_c U J (.inl J) J  (T.get_set _ _ _ _ |>.trans (if_pos J)) ((p238.1 _ _).trans J) ?_)))
    exact ⟨⟨.error 3, .fail hf0 (by rw [hst, if_pos (by omega)]), by decide, 0, rfl⟩, (hK1.set (.inl (by omega))).up (by omega)⟩
  · try simp only [dz, dy] at h18
    rw [List.length_take, Nat.min_eq_left (by omega)] at e3
    rw [List.length_take, List.length_drop, Nat.min_eq_left (by omega)] at e15
    refine rK (kN (sg 5 J (qM U J (qT (s := zl L) 0 3 U rfl Tryz.underlying9 rfl rfl ⟨by omega, by rw [zl_len]; omega⟩ ?_))))
    rw [zl_sub, List.drop_zero]
    refine qC U J (CR.mono (rNumber_cr H (L := L.take 3) (by rw [List.length_take]; omega)) ?_)
    rintro v ⟨hh1, cc1⟩ ⟨rfl, rfl, hk⟩
    try dsimp only at hk
    refine qH U J Tryz.underlying38 Tryz.underlying3 wA ?_
    refine qA U J (nK (sg 5 J (qM U J (qT (s := zl L) 3 18 U rfl Tryz.underlying9 rfl rfl ⟨by omega, by rw [zl_len]; omega⟩ ?_))))
    rw [zl_sub]
    refine qC U J (CR.mono (rNumber_cr H (L := (L.drop 3).take 15) (by rw [List.length_take]; omega)) ?_)
    rintro v ⟨hh2, cc2⟩ ⟨rfl, rfl, hk⟩
    try dsimp only at hk
    refine qH U J Tryz.underlying38 Tryz.underlying3 wA ?_
    refine qA U J (nK (rS (sg 10 J (qM U J (qB U J J J (qM U J ?_))))))
    refine q_case U (rfl : lk _ _ 23 = _) (fun hlo => ?_) (fun hlo => ?_)
    · have hlo_ := hlo
      try simp only [dz] at hlo_
      refine qS U rfl rfl rfl rfl (by rw [hlo]; decide) ?_
      refine qS U rfl rfl rfl rfl (by rw [hlo]; decide) ?_
      refine qQ U J J J (if_pos hlo) (qM U J (qS U rfl rfl rfl rfl (by decide) ?_))
      refine qS U rfl rfl rfl rfl (by decide) ?_
      refine qQ U J J J (if_pos J) (nK (rT U rfl (by rfl) ?_))
      refine sg 2 J (qU U rfl i238 z238 rfl (by simp [Program.built, Instr.fill, Tryz.underlying238, Value.cells]; rfl) ?_)
      refine qV U rfl rfl gA p238 rfl rfl (by simp [Value.cells]) ?_
      refine nK (rR (kR (f_c U J (.inl J) J  (T.get_set _ _ _ _ |>.trans (if_pos J)) ((p238.1 _ _).trans J) ?_)))
      exact ⟨⟨.error 25, .fail hf0 (by rw [hst, if_neg (by omega), if_pos (by omega)]), by decide, 18, rfl⟩, (hK1.set (.inl (by omega))).up (by omega)⟩
    · have hlo_ := hlo
      try simp only [dz] at hlo_
      refine qG U J J J hlo (qM U J (qG U J J J hlo (qB U J J J (qQ U rfl rfl rfl (if_neg (by rw [hlo]; decide)) ?_))))
      refine qM U J ?_
      refine q_case U (rfl : lk _ _ 27 = _) (fun hhi => ?_) (fun hhi => ?_)
      · have hhi_ := hhi
        try simp only [dz] at hhi_
        refine qS U rfl rfl rfl rfl (by rw [hhi]; decide) ?_
        refine qS U rfl rfl rfl rfl (by rw [hhi]; decide) ?_
        refine qQ U J J J (if_pos hhi) (nK (rT U rfl (by rfl) ?_))
        refine sg 2 J (qU U rfl i238 z238 rfl (by simp [Program.built, Instr.fill, Tryz.underlying238, Value.cells]; rfl) ?_)
        refine qV U rfl rfl gA p238 rfl rfl (by simp [Value.cells]) ?_
        refine nK (rR (kR (f_c U J (.inl J) J  (T.get_set _ _ _ _ |>.trans (if_pos J)) ((p238.1 _ _).trans J) ?_)))
        exact ⟨⟨.error 25, .fail hf0 (by rw [hst, if_neg (by omega), if_pos (by omega)]), by decide, 18, rfl⟩, (hK1.set (.inl (by omega))).up (by omega)⟩
      · have hhi_ := hhi
        try simp only [dz] at hhi_
        refine qG U J J J hhi (qM U J (qG U J J J hhi (qB U J J J (qQ U rfl rfl rfl (if_neg (by rw [hhi]; decide)) ?_))))
        refine nK ?_
        refine rC U rfl (fun hc0 => ?_) (fun hc0 => ?_)
        · try simp only [dz, dy] at hc0
          refine sg 2 J (qU U rfl i238 z238 rfl (by simp [Program.built, Instr.fill, Tryz.underlying238, Value.cells]; rfl) ?_)
          refine qV U rfl rfl gA p238 rfl rfl (by simp [Value.cells]) ?_
          refine nK (rR (kR (f_c U J (.inl J) J  (T.get_set _ _ _ _ |>.trans (if_pos J)) ((p238.1 _ _).trans J) ?_)))
          exact ⟨⟨.error 25, .fail hf0 (by rw [hst, if_neg (by omega), if_pos (by omega)]), by decide, 18, rfl⟩, (hK1.set (.inl (by omega))).up (by omega)⟩
        · try simp only [dz, dy] at hc0
          rw [if_neg (by omega), if_neg (by omega)] at hst
          obtain ⟨t, ht⟩ : ∃ t, t = num (L.take 3) := ⟨_, rfl⟩
          obtain ⟨ct, hct⟩ : ∃ ct, ct = num ((L.drop 3).take 15) := ⟨_, rfl⟩
          rw [← ht, ← hct] at hst
          have hg0 : Pk.good ⟨t, ct, [0, 1, 2, 3, 4, 5], []⟩ := by rcases Pk.step_good Pk.none_good rfl hst with q | q; exact q.1; exact q.1
          refine rK (kN (sg 1 J (qA U J (nK (sg 1 J (qA U J (nK (sg 1 J (qA U J (nK (rS (rB ?_))))))))))))
          refine rL (fun m env' s' => ∃ o ps n a cp, m = L.length - n ∧ 18 ≤ n ∧ n ≤ L.length ∧ Hd 74 [(0, .string (zs L)), (2, ptr c), (3, nv t), (4, nv ct), (5, .string (txt (o.map (48 + ·)))), (6, .slice a ps.length cp), (7, nv n)] env' ∧ Pk.good ⟨t, ct, o, ps⟩ ∧ (∀ r, Runs Pk.step pkF L ⟨t, ct, o, ps⟩ n r → Runs Pk.step pkF L Pk.none 0 r) ∧ SlR 3 1 (ps.map nv) a ps.length cp s'.heap.get ∧ (∀ z ∈ own a, c + 1 ≤ z ∧ z < s'.ctr) ∧ s'.heap.get c = some ⟨[nilS, nv 0, nv 0, nv 0, nv 0], 238, 0⟩ ∧ c + 1 ≤ s'.ctr ∧ Keep [] h c s') (L.length - 18) ?_ ?_
          · exact ⟨[0, 1, 2, 3, 4, 5], [], 18, none, 0, rfl, by omega, by omega, Ho U ⟨rfl, rfl, by rw [ht]; rfl, by rw [hct]; rfl, rfl, rfl, rfl, trivial⟩, hg0, fun r q => .more hf0 hst q, SlR.nil, by simp [own], (T.get_set _ _ _ _).trans (if_pos rfl), by dsimp only; omega, hK1.up (by omega)⟩
          rintro m _ ⟨h2, c2⟩ ⟨o, ps, n, a, cp, rfl, hn1, hn2, ⟨env, U, rfl⟩, hg, hRuns, hS, hO, hb0, hc2, hK⟩
          dsimp only at hS hO hb0 hc2
          obtain ⟨g1, g2, g3, g4, g5, g6, g7, g8⟩ := id hg
          dsimp only at g1 g2 g3 g4 g5 g6 g7
          have hld : (L.drop n).length = L.length - n := List.length_drop
          refine rS (sg 4 J (qM U J (q_lenL U J Tryz.underlying171 (qM U J (qB U J J J (nK ?_))))))
          refine rC U rfl (fun hlt => ?_) (fun hlt => ?_)
          · try simp only [dz, dy] at hlt
            have hfin : pkF ⟨t, ct, o, ps⟩ (L.drop n) = false := by simp only [pkF, Pk.done, Bool.and_eq_false_iff, beq_eq_false_iff_ne]; right; omega
            have hstp : Pk.step ⟨t, ct, o, ps⟩ (L.drop n) = Pk.pick ⟨t, ct, o, ps⟩ (L.drop n) := by simp only [Pk.step]; rw [if_neg (by omega)]
            refine rK (kN (rB (sg 5 J (qM U J (qM U J (qT (s := zl L) n (zl L).length U rfl Tryz.underlying9 rfl rfl ⟨by rw [zl_len]; omega, Nat.le_refl _⟩ ?_))))))
            rw [zl_rest]
            refine qC U J (CR.mono (rOnes_cr H (L := L.drop n) oA) ?_)
            rintro v ⟨hh3, cc3⟩ ⟨rfl, rfl, hk⟩
            try dsimp only at hk
            have hol := ones_le (L.drop n)
            have hot := ones_take (L.drop n) t
            refine qA U J (nK (rS (sg 3 J (qM U J (qM U J (qB U J J J (nK ?_)))))))
            refine rC U rfl (fun hge => ?_) (fun hge => ?_)
            · try simp only [dz, dy] at hge
              refine sg 5 J (qM U J (qM U J (qP U J J wA ?_)))
              refine qU U rfl i238 z238 rfl (by simp [Program.built, Instr.fill, Tryz.underlying238, Value.cells]; rfl) ?_
              refine qV U rfl rfl gA p238 rfl rfl (by simp [Value.cells]) ?_
              refine nK (rR (kR (k_bloR (kR (k_bloR (kR (f_c U J (.inl J) J  (T.get_set _ _ _ _ |>.trans (if_pos J)) ((p238.1 _ _).trans J) ?_)))))))
              refine ⟨⟨.error 25, hRuns _ (.fail hfin ?_), by decide, n + t, rfl⟩, (hK.set (.inl oA)).up oA⟩
              rw [hstp]; simp only [Pk.pick]; rw [if_pos (by omega)]
            · try simp only [dz, dy] at hge
              refine rK (kN (rS (sg 6 J (qM U J (qM U J (qP U J J wA ?_))))))
              refine qM U J (qK U J Tryz.underlying9 ?_)
              rw [hsz]
              refine qB U J J J (nK ?_)
              refine rC U rfl (fun hend => ?_) (fun hend => ?_)
              · try simp only [dz, dy] at hend
                refine sg 2 J (qU U rfl i238 z238 rfl (by simp [Program.built, Instr.fill, Tryz.underlying238, Value.cells]; rfl) ?_)
                refine qV U rfl rfl gA p238 rfl rfl (by simp [Value.cells]) ?_
                refine nK (rR (kR (k_bloR (kR (k_bloR (kR (f_c U J (.inl J) J  (T.get_set _ _ _ _ |>.trans (if_pos J)) ((p238.1 _ _).trans J) ?_)))))))
                refine ⟨⟨.error 3, hRuns _ (.fail hfin ?_), by decide, 0, rfl⟩, (hK.set (.inl oA)).up oA⟩
                rw [hstp]; simp only [Pk.pick]; rw [if_neg (by omega), if_pos (by omega)]
              · try simp only [dz, dy] at hend
                obtain ⟨k, hk⟩ : ∃ k, k = ones (L.drop n) := ⟨_, rfl⟩
                rw [← hk] at hol hot
                rw [← hk]
                have hst2 : Pk.step ⟨t, ct, o, ps⟩ (L.drop n) = .ok (⟨t, ct, moved o k, ps ++ [o.getD k 0]⟩, k + 1) := by rw [hstp]; simp only [Pk.pick]; rw [if_neg (by omega), if_neg (by omega), show ones ((L.drop n).take t) = k by omega]
                obtain ⟨y, hy⟩ : ∃ y, o[k]? = some y := ⟨_, List.getElem?_eq_getElem (by omega)⟩
                have hy6 := g2 y (List.mem_of_getElem? hy)
                have hyD : o.getD k 0 = y := by rw [List.getD_eq_getElem?_getD, hy]; rfl
                have hxn : (UInt8.ofNat (48 + y)).toNat = 48 + y := by simp [UInt8.toNat_ofNat]; omega
                refine rK (kN (sg 9 J (qM U J (qM U J (qM U J ?_)))))
                refine qJ U rfl rfl Tryz.underlying9 oA (txt_get (s := o.map (48 + ·)) (i := k) (by rw [List.getElem?_map, hy]; rfl)) ?_
                simp only [hxn]
                refine qH U J Tryz.underlying5 Tryz.underlying3 wA ?_
                refine q_sub U rfl rfl (m := (y : Int)) (by rw [wrapI oA oA]; omega) ?_
                refine q1_ U J a171 J (qX U rfl rfl a171 a171 (hS.move (fun z hz => by have := hO z hz; rw [T.get_set, if_neg oA])) ((T.get_set _ _ _ _).trans (if_pos rfl)) rfl oA oA ?_)
                intro a2 cp2 h4 hS2 hO2 hF2
                have hbc := (hF2 c (by omega) (fun m => by have := hO c m; omega)).trans ((T.get_set _ _ _ _).trans ((if_neg (by omega)).trans hb0))
                refine qA U J (nK (sg 4 J (qM U J (qM U J (qC U J (CR.mono (rTouch_cr H (l := o.map (48 + ·)) (i := k) (by rw [List.length_map]; omega) (by rw [List.length_map]; omega)) ?_))))))
                rintro v ⟨hh4, cc4⟩ ⟨rfl, rfl, hk⟩
                try dsimp only at hk
                rw [moved_map (by omega)]
                refine qA U J (nK (rg 5 J (qM U J (qM U J (qP U J J wA ?_)))))
                refine qP U J J wA ?_
                refine qA U J (rN (kO (kN ?_)))
                refine ⟨L.length - (n + k + 1), by omega, moved o k, ps ++ [y], n + k + 1, a2, cp2, rfl, by omega, by omega, Ho U ⟨rfl, rfl, rfl, rfl, rfl, by rw [List.length_append]; rfl, rfl, trivial⟩, ?_, fun r q => hRuns r (.more hfin hst2 (by rw [hyD]; exact q)), by rw [List.map_append, List.length_append]; exact hS2, fun z hz => by have := hO2 z hz; dsimp only; omega, hbc, by dsimp only at *; omega, hK.app2 hF2 (fun z hz => .inl (by have := hO z hz; omega)) oA oA (by dsimp only at *; omega)⟩
                rw [hyD] at hst2; rcases Pk.step_good hg hfin hst2 with q | q; exact q.1; exact q.1
          · try simp only [dz, dy] at hlt
            have hle : ps.length = ct := by omega
            refine r_exit (kE (kE (kB (kN (sg 6 J (qM U J (qM U J (qM U J (qM U J (qU U rfl i238 z238 rfl (by simp [Program.built, Instr.fill, Tryz.underlying238, Value.cells]; rfl) ?_))))))))))
            refine qV U rfl rfl gA p238 rfl rfl (by simp [Value.cells]) ?_
            refine nK (rR (f_c U J (.inl J) J  (T.get_set _ _ _ _ |>.trans (if_pos J)) ((p238.1 _ _).trans J) ?_))
            have hdn : Pk.done ⟨t, ct, o, ps⟩ = true := by simp only [Pk.done, hle, beq_self_eq_true, Bool.and_true, decide_eq_true_eq]; omega
            exact ⟨⟨.ok (⟨t, ct, o, ps⟩, n), hRuns _ (.stop hdn), hg, hdn, hn2, a, cp, n, rfl, hS.move (fun z hz => by have := hO z hz; dsimp only; rw [T.get_set, if_neg (by omega)]), fun z hz => by have := hO z hz; dsimp only; omega⟩, (hK.set (.inl (by omega))).up (by omega)⟩
end
abbrev coT (size : Nat) (pk : Pk) (tabs : List (List Nat)) : Co := ⟨size, pk, ⟨size, 0, []⟩, tabs, [], false⟩
theorem co_pk {L : List Bool} {size : Nat} {p : Pk} {n : Nat} {r : Except Nat (Pk × Nat)} (hr : Runs Pk.step pkF L p n r) :
    (∀ p' m, r = .ok (p', m) → Steps coS coF L (coT size p []) n (coT size p' []) m) ∧ ∀ e, r = .error e → ∃ p' m, Steps coS coF L (coT size p []) n (coT size p' []) m ∧ coS (coT size p' []) (L.drop m) = .error e := by
  induction hr with
  | stop h => exact ⟨fun p' m q => (by cases q; exact .refl _ _), fun e q => (by cases q)⟩
  | @fail p n e h k =>
    refine ⟨fun p' m q => (by cases q), fun e' q => ?_⟩
    cases q
    refine ⟨p, n, .refl _ _, ?_⟩
    simp only [pkF] at h
    simp only [coS, Co.step_eq, h, Bool.not_false, if_true, k]; rfl
  | @more p p' n k r h q m ih =>
    simp only [pkF] at h
    have hs : coS (coT size p []) (L.drop n) = .ok (coT size p' [], k) := by simp only [coS, Co.step_eq, h, Bool.not_false, if_true, q]; rfl
    refine ⟨fun t u w => .more rfl hs (ih.1 t u w), fun e w => ?_⟩
    obtain ⟨t, u, i1, i2⟩ := ih.2 e w
    exact ⟨t, u, .more rfl hs i1, i2⟩
theorem co_tab {L : List Bool} {k size : Nat} {pk : Pk} {tabs : List (List Nat)} (hp : pk.done = true) (ht : tabs.length < pk.t) {d : De} {m : Nat} {r : Except Nat (De × Nat)} (hr : Runs De.step deFin (L.drop k) d m r) : d.done = false →
    (∀ d' n, r = .ok (d', n) → whole d'.lens = true → Steps coS coF L ⟨size, pk, d, tabs, [], false⟩ (k + m) (coT size pk (tabs ++ [d'.lens])) (k + n)) ∧
    (∀ e, (r = .error e ∨ e = 22 ∧ ∃ d' n, r = .ok (d', n) ∧ whole d'.lens = false) → ∃ c' n', Steps coS coF L ⟨size, pk, d, tabs, [], false⟩ (k + m) c' n' ∧ c'.done = false ∧ c'.out = [] ∧ coS c' (L.drop n') = .error e) := by
  have hdd : ∀ m, L.drop (k + m) = (L.drop k).drop m := fun m => (List.drop_drop ..).symm
  have hst : ∀ d l, Co.step ⟨size, pk, d, tabs, [], false⟩ l = Co.tab ⟨size, pk, d, tabs, [], false⟩ l := fun d l => by
    simp only [Co.step_eq, hp, Bool.not_true, Bool.false_eq_true, if_false]; exact if_pos ht
  induction hr with
  | stop h => intro hd; simp only [deFin] at h; rw [hd] at h; cases h
  | @fail d m e h k' =>
    intro hd
    refine ⟨fun d' n q => (by cases q), fun e' q => ?_⟩
    rcases q with q | ⟨_, _, _, q, _⟩
    · cases q
      exact ⟨_, _, .refl _ _, rfl, rfl, by simp only [coS, hst, hdd, Co.tab, k']⟩
    · cases q
  | @more d d' m j r h q m' ih =>
    intro hd
    cases hb : d'.done with
    | false =>
      have hs : coS ⟨size, pk, d, tabs, [], false⟩ (L.drop (k + m)) = .ok (⟨size, pk, d', tabs, [], false⟩, j) := by simp only [coS, hst, hdd, Co.tab, q, hb, Bool.not_false, if_true]
      obtain ⟨i1, i2⟩ := ih hb
      simp only [← Nat.add_assoc] at i1 i2
      refine ⟨fun d2 n w1 w2 => .more rfl hs (i1 d2 n w1 w2), fun e w => ?_⟩
      obtain ⟨t, u, x1, x2⟩ := i2 e w
      exact ⟨t, u, .more rfl hs x1, x2⟩
    | true =>
      have hrr : r = .ok (d', m + j) := m'.det (.stop hb)
      subst hrr
      refine ⟨fun d2 n w1 w2 => ?_, fun e w => ?_⟩
      · cases w1
        have hs : coS ⟨size, pk, d, tabs, [], false⟩ (L.drop (k + m)) = .ok (coT size pk (tabs ++ [d'.lens]), j) := by
          simp only [coS, hst, hdd, Co.tab, q, hb, w2, Bool.not_true, Bool.false_eq_true, if_false]
        rw [← Nat.add_assoc]
        exact .more rfl hs (.refl _ _)
      · rcases w with w | ⟨rfl, d2, n, w, w2⟩
        · cases w
        · cases w
          exact ⟨_, _, .refl _ _, rfl, rfl, by simp only [coS, hst, hdd, Co.tab, q, hb, w2, Bool.not_true, Bool.not_false, Bool.false_eq_true, if_false, if_true]⟩
theorem de_facts {L : List Bool} {d : De} {m : Nat} {r : Except Nat (De × Nat)} (hr : Runs De.step deFin L d m r) : d.now ≤ 20 → (∀ x ∈ d.lens, 1 ≤ x ∧ x ≤ 20) → m ≤ L.length → (∀ d' n, r = .ok (d', n) → d'.lens.length = d.size ∧ (∀ x ∈ d'.lens, 1 ≤ x ∧ x ≤ 20) ∧ n ≤ L.length) ∧ ∀ e, r = .error e → e ≠ 0 := by
  induction hr with
  | stop h => intro h1 h2 h3; exact ⟨fun d' n q => (by cases q; simp only [deFin, De.done, beq_iff_eq] at h; exact ⟨h, h2, h3⟩), fun e q => (by cases q)⟩
  | @fail d m e h k' =>
    intro h1 h2 h3
    refine ⟨fun d' n q => (by cases q), fun e' q => ?_⟩
    cases q
    simp only [De.step] at k'
    repeat' split at k'
    all_goals first | (cases k'; decide) | (cases k'; done)
  | @more d d1 m j r h q m' ih =>
    intro h1 h2 h3
    have hp := De.step_pos q
    rw [List.length_drop] at hp
    have key : d1.size = d.size ∧ d1.now ≤ 20 ∧ ∀ x ∈ d1.lens, 1 ≤ x ∧ x ≤ 20 := by
      simp only [De.step] at q
      repeat' split at q
      all_goals first | (cases q; done) | skip
      · cases q; exact ⟨rfl, by dsimp only; omega, h2⟩
      · cases q; refine ⟨rfl, h1, fun x hx => ?_⟩
        rcases List.mem_append.mp hx with w | w
        · exact h2 x w
        · simp only [List.mem_singleton] at w; omega
      · cases q; exact ⟨rfl, by dsimp only; omega, h2⟩
      · cases q; exact ⟨rfl, by dsimp only; omega, h2⟩
    have := ih key.2.1 key.2.2 (by omega)
    rw [key.1] at this; exact this
abbrev tv (size b : Nat) : Value := .slice (some ⟨b, 0, none⟩) size 1
def TabR (tabs : List (List Nat)) (bs : List Nat) (g : Nat → Option Blk) : Prop := bs.length = tabs.length ∧ ∀ (i b : Nat) (l : List Nat), bs[i]? = some b → tabs[i]? = some l → g b = some ⟨(codesL l).map sv, 9, 1⟩
theorem TabR.kind {tabs : List (List Nat)} {bs : List Nat} {g : Nat → Option Blk} (h : TabR tabs bs g) : ∀ z ∈ bs, ∃ B, g z = some B ∧ B.elem ∈ [9] := by
  intro z hz
  obtain ⟨i, hi⟩ := List.getElem?_of_mem hz
  have U := (List.getElem?_eq_some_iff.mp hi).1
  obtain ⟨l, hl2⟩ : ∃ l, tabs[i]? = some l := ⟨_, List.getElem?_eq_getElem (by rw [← h.1]; exact U)⟩
  exact ⟨_, h.2 i z l hi hl2, by simp⟩
theorem TabR.move {tabs : List (List Nat)} {bs : List Nat} {g g' : Nat → Option Blk} (h : TabR tabs bs g) (hg : ∀ z ∈ bs, g' z = g z) : TabR tabs bs g' :=
  ⟨h.1, fun i b l h1 h2 => (hg b (List.mem_of_getElem? h1)).trans (h.2 i b l h1 h2)⟩
theorem TabR.add {tabs : List (List Nat)} {bs : List Nat} {g : Nat → Option Blk} {l : List Nat} {b : Nat} (h : TabR tabs bs g) (hb : g b = some ⟨(codesL l).map sv, 9, 1⟩) : TabR (tabs ++ [l]) (bs ++ [b]) g := by
  refine ⟨by simp [h.1], fun i b' l' h1 h2 => ?_⟩
  rcases Nat.lt_or_ge i bs.length with q | q
  · rw [List.getElem?_append_left q] at h1; rw [List.getElem?_append_left (by rw [← h.1]; exact q)] at h2; exact h.2 i b' l' h1 h2
  · have hlt := (List.getElem?_eq_some_iff.mp h1).1
    rw [List.length_append] at hlt; simp only [List.length_cons, List.length_nil] at hlt
    have e : i = bs.length := by omega
    subst e
    rw [List.getElem?_append_right (Nat.le_refl _), Nat.sub_self] at h1
    rw [List.getElem?_append_right (by rw [h.1]; exact Nat.le_refl _), h.1, Nat.sub_self] at h2
    cases h1; cases h2; exact hb
def TabsOk (size : Nat) (tabs : List (List Nat)) : Prop := ∀ l ∈ tabs, l.length = size ∧ whole l = true ∧ ∀ x ∈ l, 1 ≤ x ∧ x ≤ 20
section
variable {ov : OvT} (H : OvH ov)
include H
theorem rDeltaE_cr {h : Heap} {c size : Nat} {L : List Bool} (hL : L.length ≤ 1000000) (hz : 3 ≤ size ∧ size ≤ 258) :
    CR Tryz.prog ov 200 [.string (zs L), nv size] ⟨h, c⟩ (fun v st => ∃ (a : Option Addr) (n cp bits e : Nat), v = .agg #[.slice a n cp, nv bits, nv e] ∧
      ((e ≠ 0 ∧ DeltaR size L (.error e)) ∨ (e = 0 ∧ ∃ d, DeltaR size L (.ok (d, bits)) ∧ n = size ∧ d.lens.length = size ∧ (∀ x ∈ d.lens, 1 ≤ x ∧ x ≤ 20) ∧ bits ≤ L.length ∧ SlR 3 1 (d.lens.map nv) a n cp st.heap.get ∧ ∀ z ∈ own a, c ≤ z ∧ z < st.ctr)) ∧ Keep [] h c st) := by
  refine (rDelta_cr H hL hz).mono ?_
  rintro v st ⟨⟨r, hr, q⟩, k⟩
  have hf := de_facts hr (by dsimp only; omega) (by simp) (by omega)
  cases r with
  | error e => exact ⟨none, 0, 0, 0, e, q, .inl ⟨hf.2 e rfl, hr⟩, k⟩
  | ok y =>
    obtain ⟨d, n⟩ := y
    obtain ⟨a, cp, q1, q2, q3⟩ := q
    obtain ⟨f1, f2, f3⟩ := hf.1 d n rfl
    exact ⟨a, _, cp, n, 0, q1, .inr ⟨rfl, d, hr, f1, f1, f2, f3, q2, q3⟩, k⟩
theorem rTables_cr {h : Heap} {c k size : Nat} {L : List Bool} {pk : Pk} (hL : L.length ≤ 1000000) (hk : k ≤ L.length) (hz : 3 ≤ size ∧ size ≤ 258) (hp : pk.done = true) (ht : pk.t ≤ 6) :
    CR Tryz.prog ov 177 [.string (zs (L.drop k)), nv pk.t, nv size] ⟨h, c⟩ (fun v st =>
      ((∃ c' m e a n cp, Steps coS coF L (coT size pk []) k c' m ∧ c'.done = false ∧ c'.out = [] ∧ coS c' (L.drop m) = .error e ∧ e ≠ 0 ∧ v = .agg #[.slice a n cp, nv 0, nv e]) ∨
       (∃ tabs bits bs a cp, Steps coS coF L (coT size pk []) k (coT size pk tabs) (k + bits) ∧ k + bits ≤ L.length ∧ tabs.length = pk.t ∧ TabsOk size tabs ∧ v = .agg #[.slice a pk.t cp, nv bits, nv 0] ∧
         SlR 244 1 (bs.map (tv size)) a pk.t cp st.heap.get ∧ TabR tabs bs st.heap.get ∧ (∀ z ∈ own a, c ≤ z ∧ z < st.ctr) ∧ ∀ z ∈ bs, c ≤ z ∧ z < st.ctr)) ∧ Keep [] h c st) := by
  refine e_3 Tryz.func177 rfl (H _ (by decide)) Tryz.ntmps177 (by decide) ?_
  intro env U
  refine sg 1 J (qZ i242 z242 J (nK (sg 3 J (qU U rfl i242 z242 rfl (by simp [Program.built, Instr.fill, Tryz.underlying242, Value.cells]; rfl) ?_))))
  refine qZ i242 z242 J (qV U rfl rfl gA p242 rfl rfl (by simp [Value.cells]) ?_)
  refine nK (rS (sg 2 J (qM U J (qM U J (nK (rB ?_))))))
  refine rL (fun m env' s' => ∃ j tabs bits bs a cp, m = pk.t - j ∧ j ≤ pk.t ∧ Hd 50 [(0, .string (zs (L.drop k))), (2, nv size), (6, ptr c), (7, ptr (c + 2)), (10, nv pk.t), (11, nv j)] env' ∧ tabs.length = j ∧ Steps coS coF L (coT size pk []) k (coT size pk tabs) (k + bits) ∧ k + bits ≤ L.length ∧ TabsOk size tabs ∧ s'.heap.get c = some ⟨[nilS, nv 0, nv 0], 242, 0⟩ ∧ s'.heap.get (c + 2) = some ⟨[.slice a j cp, nv bits, nv 0], 242, 0⟩ ∧ SlR 244 1 (bs.map (tv size)) a j cp s'.heap.get ∧ TabR tabs bs s'.heap.get ∧ (∀ z ∈ own a, c ≤ z ∧ z < s'.ctr) ∧ (∀ z ∈ bs, c ≤ z ∧ z < s'.ctr) ∧ c + 6 ≤ s'.ctr ∧ Keep [] h c s') pk.t ?_ ?_
  · refine ⟨0, [], 0, [], none, 0, rfl, Nat.zero_le _, Ho U ⟨rfl, rfl, rfl, rfl, rfl, rfl, trivial⟩, rfl, .refl _ _, hk, fun l U => by simp at U, ?_, ?_, SlR.nil, ⟨rfl, fun i b l h1 => by simp at h1⟩, by simp [own], by simp, by dsimp only; omega, ((((Keep.refl (Nat.le_refl c)).set (.inl oA)).set (.inl oA)).set (.inl oA)).up oA⟩
    · dsimp only; rw [T.get_set, if_neg (by omega), T.get_set, if_neg (by omega), T.get_set, if_pos (by omega)]; rfl
    · dsimp only; rw [T.get_set, if_pos (by omega)]; rfl
  rintro m _ ⟨h2, c2⟩ ⟨j, tabs, bits, bs, a, cp, rfl, hj, ⟨env, U, rfl⟩, htl, hSt, hbit, hok, hb6, hb7, hS, hT, hO, hOb, hc2, hK⟩
  dsimp only at hb6 hb7 hS hT hO hOb hc2
  have hld : (L.drop k).length = L.length - k := List.length_drop
  refine sg 1 J (qB U J J J (nK (rS ?_)))
  refine rC U rfl (fun hjt => ?_) (fun hjt => ?_)
  · try simp only [dz, dy] at hjt
    refine rK (kN (rS (rB (sg 8 J (qM U J (qF U J fa242_1 (qL U J gA ((p3.1 _ _).trans J) ?_)))))))
    refine qT (s := zl (L.drop k)) bits (zl (L.drop k)).length U rfl Tryz.underlying9 rfl rfl ⟨by rw [zl_len]; omega, Nat.le_refl _⟩ ?_
    rw [zl_rest, List.drop_drop]
    refine qM U J (qC U J (CR.mono (rDeltaE_cr H (L := L.drop (k + bits)) (by rw [List.length_drop]; omega) hz) ?_))
    rintro v ⟨hh1, cc1⟩ ⟨a1, n1, cp1, b1, e1, rfl, hcase, hK1⟩
    have hcc1 := hK1.1
    dsimp only at hcc1 hcase
    refine qZ i272 z272 J (qV U rfl rfl gA p272 rfl rfl (by simp [Value.cells]) ?_)
    refine ro_gen (fun H6 hH6 => ?_)
    have hx6 : ∀ x, x ≠ c2 + 7 → H6.get x = hh1.get x := fun x hx => by rw [hH6]; simp only [T.get_set]; rw [if_neg (by omega), if_neg (by omega)]
    have hb8 : H6.get (c2 + 7) = some ⟨[.slice a1 n1 cp1, nv b1, nv e1], 272, 0⟩ := by rw [hH6, T.get_set, if_pos (by omega)]; rfl
    have hlow : ∀ x, x < c2 → H6.get x = h2.get x := fun x hx => (hx6 x (by omega)).trans (hK1.2 x (by omega) (by simp))
    have hb66 := (hlow c (by omega)).trans hb6
    have hb76 := (hlow (c + 2) (by omega)).trans hb7
    have hK6 : Keep [] h c ⟨H6, cc1⟩ := ⟨by dsimp only; omega, fun x hx _ => (hlow x (by omega)).trans (hK.2 x hx (by simp))⟩
    refine nK (rS (sg 3 J (qF U J fa272_2 (qL U J gA ((p3.1 _ _).trans J) ?_))))
    refine qB U J J J (nK ?_)
    refine rC U rfl (fun herr => ?_) (fun herr => ?_)
    · try simp only [dz, dy] at herr
      refine sg 6 J (qF U J fa242_0 (qL U J gA ((p240.1 _ _).trans J) ?_))
      refine qF U J fa272_2 (qL U J gA ((p3.1 _ _).trans J) ?_)
      refine qU U rfl i242 z242 rfl (by simp [Program.built, Instr.fill, Tryz.underlying242, Value.cells]; rfl) ?_
      refine qV U rfl rfl gA p242 rfl rfl (by simp [Value.cells]) ?_
      refine nK (rR (kR (k_bloR (kR (kR (k_bloR (kR (f_c U J (.inl J) J  (T.get_set _ _ _ _ |>.trans (if_pos J)) ((p242.1 _ _).trans J) ?_))))))))
      have hd : e1 ≠ 0 ∧ DeltaR size (L.drop (k + bits)) (.error e1) := by rcases hcase with q | ⟨q, _⟩; exact q; (subst q; simp at herr)
      obtain ⟨c', m', s1, s2, s3, s4⟩ := (co_tab (size := size) (k := k + bits) (tabs := tabs) hp (by omega) hd.2 (by simp [De.done]; omega)).2 e1 (.inl rfl)
      exact ⟨.inl ⟨c', m', e1, a, j, cp, hSt.trans s1, s2, s3, s4, hd.1, rfl⟩, (hK6.set (.inl (by omega))).up (by omega)⟩
    · try simp only [dz, dy] at herr
      obtain ⟨rfl, d, hDR, rfl, hdl, hd20, hdb, hdS, hdO⟩ : e1 = 0 ∧ ∃ d, DeltaR size (L.drop (k + bits)) (.ok (d, b1)) ∧ n1 = size ∧ d.lens.length = size ∧ (∀ x ∈ d.lens, 1 ≤ x ∧ x ≤ 20) ∧ b1 ≤ (L.drop (k + bits)).length ∧ SlR 3 1 (d.lens.map nv) a1 n1 cp1 hh1.get ∧ ∀ z ∈ own a1, c2 + 9 ≤ z ∧ z < cc1 := by rcases hcase with ⟨q, _⟩ | ⟨q, d, q1, q2, q3, q4, q5, q6, q7⟩; (exfalso; simp at herr; omega); exact ⟨q, d, q1, q2, q3, q4, q5, q6, fun x hx => by have := q7 x hx; omega⟩
      have hct := co_tab (size := n1) (k := k + bits) (tabs := tabs) hp (by omega) hDR (by simp [De.done]; omega)
      rw [List.length_drop] at hdb
      refine rK (kN (sg 7 J ?_))
      skip
      refine qF U J fa242_1 (qL U J gA ((p3.1 _ _).trans J) ?_)
      refine qF U J fa272_1 (qL U J gA ((p3.1 _ _).trans J) ?_)
      refine qP U J J wA ?_
      refine qF U J fa242_1 (qW U rfl rfl gA p3 rfl rfl (by first | decide | (simp; done) | (simp; omega)) ?_)
      refine ro_gen (fun H7 hH7 => ?_)
      have hx7 : ∀ x, x ≠ c + 2 → H7.get x = H6.get x := fun x hx => by rw [hH7, T.get_set, if_neg hx]
      have hb77 : H7.get (c + 2) = some ⟨[.slice a j cp, nv (bits + b1), nv 0], 242, 0⟩ := by rw [hH7, T.get_set, if_pos rfl]; rfl
      have hb87 := (hx7 (c2 + 7) (by omega)).trans hb8
      have hb67 := (hx7 c (by omega)).trans hb66
      have hK7 : Keep [] h c ⟨H7, cc1⟩ := by rw [hH7]; exact hK6.set (.inl (by omega))
      have hdS7 := hdS.move (g' := H7.get) (fun x hx => by have := hdO x hx; exact (hx7 x (by omega)).trans (hx6 x (by omega)))
      refine nK (rS (sg 4 J (qF U J fa272_0 (qL U J gA ((p171.1 _ _).trans J) ?_))))
      refine qC U J (CR.mono (rWhole_cr H hdS7 oA hd20) ?_)
      rintro v ⟨hh2, cc2⟩ ⟨rfl, rfl, hk⟩
      try dsimp only at hk
      refine q_un U J J (nK ?_)
      refine rC U rfl (fun hw => ?_) (fun hw => ?_)
      · try simp only [dz, dy] at hw
        refine sg 4 J (qF U J fa242_0 (qL U J gA ((p240.1 _ _).trans J) ?_))
        refine qU U rfl i242 z242 rfl (by simp [Program.built, Instr.fill, Tryz.underlying242, Value.cells]; rfl) ?_
        refine qV U rfl rfl gA p242 rfl rfl (by simp [Value.cells]) ?_
        refine nK (rR (kR (k_bloR (kR (kR (k_bloR (kR (f_c U J (.inl J) J  (T.get_set _ _ _ _ |>.trans (if_pos J)) ((p242.1 _ _).trans J) ?_))))))))
        have hw2 : whole d.lens = false := by simpa using hw
        obtain ⟨c', m', s1, s2, s3, s4⟩ := hct.2 22 (.inr ⟨rfl, d, b1, rfl, hw2⟩)
        exact ⟨.inl ⟨c', m', 22, a, j, cp, hSt.trans s1, s2, s3, s4, by decide, rfl⟩, (hK7.set (.inl (by omega))).up (by dsimp only at *; omega)⟩
      · try simp only [dz, dy] at hw
        have hw2 : whole d.lens = true := by simpa using hw
        have hs2 := hSt.trans (hct.1 d b1 rfl hw2)
        refine rK (kN (rD [(1, 5)] (by decide +kernel) (by decide +kernel) (n := 9) rfl ?_))
        refine qF U J fa242_0 (qL U J gA ((p240.1 _ _).trans J) ?_)
        refine qF U J fa272_0 (qL U J gA ((p171.1 _ _).trans J) ?_)
        refine qC U J (CR.mono (rCodesOf_cr H hdS7 (fun z hz => by have := hdO z hz; dsimp only at *; omega) hz hd20) ?_)
        rintro v ⟨hh3, cc3⟩ ⟨bn, rfl, hbn, hbn1, hbn2, hK3⟩
        have hcc3 := hK3.1
        dsimp only at hcc3 hbn hbn2
        have hn2 : c + 2 ∉ own a := own_ne hS hb7 (by dsimp only; decide)
        have hn2b : c + 2 ∉ bs := kind_ne hT.kind hb7 (by dsimp only; decide)
        have hnc : c ∉ own a := own_ne hS hb6 (by dsimp only; decide)
        have hnb : ∀ z ∈ bs, z ∉ own a := fun z hz => by obtain ⟨B, hB1, hB2⟩ := hT.kind z hz; exact own_ne hS hB1 (by simp at hB2; rw [hB2]; decide)
        have hmv : ∀ x, x < c2 → x ≠ c + 2 → hh3.get x = h2.get x := fun x h1 h2 => (hK3.2 x (by dsimp only at *; omega) (by simp)).trans ((hx7 x h2).trans (hlow x h1))
        have hS3 := hS.move (g' := hh3.get) (fun x hx => hmv x (hO x hx).2 (fun q => hn2 (q ▸ hx)))
        have hT3 := hT.move (g' := hh3.get) (fun x hx => hmv x (hOb x hx).2 (fun q => hn2b (q ▸ hx)))
        have hb73 := (hK3.2 (c + 2) (by dsimp only at *; omega) (by simp)).trans hb77
        have hb63 := hmv c (by omega) (by omega)
        refine q1_ U J a240 J (qX U rfl rfl a240 a240 (hS3.move (fun z hz => by have := hO z hz; rw [T.get_set, if_neg (by dsimp only at *; omega)])) ((T.get_set _ _ _ _).trans (if_pos rfl)) rfl oA oA ?_)
        intro a2 cp2 h4 hS4 hO4 hF4
        have hmv4 : ∀ x, x < c2 → x ∉ own a → h4.get x = hh3.get x := fun x hx hx2 => (hF4 x (by dsimp only at *; omega) hx2).trans (by rw [T.get_set, if_neg (by dsimp only at *; omega)])
        have hb74 := (hmv4 (c + 2) (by omega) hn2).trans hb73
        have hb64 := (hmv4 c (by omega) hnc).trans (hb63.trans hb6)
        have hbn4 : h4.get bn = some ⟨(codesL d.lens).map sv, 9, 1⟩ := (hF4 bn (by dsimp only at *; omega) (fun m => by have := hO bn m; dsimp only at *; omega)).trans (by rw [T.get_set, if_neg (by dsimp only at *; omega)]; exact hbn)
        refine qF U J fa242_0 (qW U rfl rfl gA p240 rfl rfl (by first | decide | (simp; done) | (simp; omega)) ?_)
        refine ro_nilp ?_ ?_
        · exact all1 (pair_load U rfl rfl rfl rfl ((heapAt_old rfl (by dsimp only at *; omega)).trans hb73) ((p240.1 _ _).trans rfl) rfl (same_slice _ _ _))
        refine kO (kN (rg 2 J (qP U J J wA ?_)))
        refine qM U J (nK ?_)
        have htl2 : tabs.length = bs.length := hT.1.symm
        refine ⟨pk.t - (j + 1), by omega, j + 1, tabs ++ [d.lens], bits + b1, bs ++ [bn], a2, cp2, rfl, by omega, Ho U ⟨rfl, rfl, rfl, rfl, rfl, rfl, trivial⟩, by simp [htl], by rw [← Nat.add_assoc]; exact hs2, by omega, ?_, ?_, ?_, ?_, ?_, ?_, ?_, by dsimp only at *; omega, ?_⟩
        · intro l U; rcases List.mem_append.mp U with q | q; (exact hok l q); (simp only [List.mem_singleton] at q; subst q; exact ⟨hdl, hw2, hd20⟩)
        · dsimp only; rw [T.get_set, if_neg (by omega)]; exact hb64
        · dsimp only; rw [T.get_set, if_pos (by omega)]; rfl
        · rw [List.map_append]; exact hS4.move (fun z hz => by have := hO4 z hz; dsimp only at *; rw [T.get_set, if_neg (by omega)])
        · refine ((hT3.move (g' := h4.get) (fun z hz => hmv4 z (hOb z hz).2 (hnb z hz))).add hbn4).move (fun z hz => ?_)
          dsimp only; rw [T.get_set, if_neg]; intro q; rcases List.mem_append.mp hz with q2 | q2; (subst q; exact hn2b q2); (simp only [List.mem_singleton] at q2; dsimp only at *; omega)
        · intro z hz; have := hO4 z hz; dsimp only at *; omega
        · intro z hz; rcases List.mem_append.mp hz with q2 | q2; (have := hOb z q2; dsimp only at *; omega); (simp only [List.mem_singleton] at q2; dsimp only at *; omega)
        · exact (((hK7.up (by dsimp only at *; omega)).call hK3 (by simp)).app2 hF4 (fun z hz => .inl (hO z hz).1) (by dsimp only at *; omega) (by dsimp only at *; omega) (Nat.le_refl _)).set (.inl (by omega)) |>.up (by dsimp only at *; omega)
  · try simp only [dz, dy] at hjt
    have ej : j = pk.t := by omega
    subst ej
    refine r_exit (kE (kE (kB (kN (sg 2 J (qL U J gA ((p242.1 _ _).trans J) ?_))))))
    refine qV U rfl rfl gA p242 rfl rfl (by simp [Value.cells]) ?_
    refine nK (rR (f_c U J (.inl J) J  (T.get_set _ _ _ _ |>.trans (if_pos J)) ((p242.1 _ _).trans J) ?_))
    have hn1 : c ∉ own a := own_ne hS hb6 (by dsimp only; decide)
    have hn2 : c ∉ bs := kind_ne hT.kind hb6 (by dsimp only; decide)
    exact ⟨.inr ⟨tabs, bits, bs, a, cp, hSt, hbit, htl, hok, rfl, hS.move (fun z hz => by dsimp only; rw [T.get_set, if_neg (fun q => hn1 (by rw [← Nat.add_zero c, ← q]; exact hz))]), hT.move (fun z hz => by dsimp only; rw [T.get_set, if_neg (fun q => hn2 (by rw [← Nat.add_zero c, ← q]; exact hz))]), fun z hz => by have := hO z hz; dsimp only; omega, fun z hz => by have := hOb z hz; dsimp only; omega⟩, (hK.set (.inl (by omega))).up (by omega)⟩
end
abbrev coO (size : Nat) (pk : Pk) (tabs : List (List Nat)) (out : List Nat) (done : Bool) : Co := ⟨size, pk, ⟨size, 0, []⟩, tabs, out, done⟩
theorem co_sym {l : List Bool} {size : Nat} {pk : Pk} {tabs : List (List Nat)} {out : List Nat} (hp : pk.done = true) (ht : tabs.length = pk.t) :
    (pk.picks.length ≤ out.length / 50 → coS (coO size pk tabs out false) l = .error 25) ∧
    ∀ pick tab, pk.picks[out.length / 50]? = some pick → tabs[pick]? = some tab → whole tab = true → (∀ x ∈ tab, 1 ≤ x ∧ x ≤ 20) →
      ((codesL tab).findIdx? (begB l) = none → coS (coO size pk tabs out false) l = .error 3) ∧
      ∀ s, (codesL tab).findIdx? (begB l) = some s → s < tab.length ∧ 1 ≤ (codeB tab s).length ∧ (codeB tab s).length ≤ l.length ∧ coS (coO size pk tabs out false) l = .ok (coO size pk tabs (out ++ [s]) (s + 1 == size), (codeB tab s).length) := by
  have hst : Co.step (coO size pk tabs out false) l = Co.sym (coO size pk tabs out false) l := by
    simp only [Co.step_eq, hp, Bool.not_true, Bool.false_eq_true, if_false]; exact if_neg (by omega)
  refine ⟨fun h => ?_, fun pick tab h1 h2 hw h20 => ?_⟩
  · simp only [coS, hst, Co.sym]; rw [if_pos h]
  · have hlt := (List.getElem?_eq_some_iff.mp h1).1
    have e1 : tabs.getD (pk.picks.getD (out.length / 50) 0) [] = tab := by rw [List.getD_eq_getElem?_getD, List.getD_eq_getElem?_getD, h1, Option.getD_some, h2]; rfl
    have hs : coS (coO size pk tabs out false) l = match getC tab 1 0 l with
        | .error e => .error e
        | .ok q => .ok (coO size pk tabs (out ++ [q.1]) (q.1 + 1 == size), q.2) := by
      simp only [coS, hst, Co.sym]; rw [if_neg (by omega), e1]
      cases getC tab 1 0 l <;> rfl
    have hg := get_law h20 hw l
    cases hq : getC tab 1 0 l with
    | error e =>
      rw [hq] at hg hs
      exact ⟨fun _ => by rw [hs, hg.1], fun s h => (by rw [hg.2] at h; cases h)⟩
    | ok y =>
      obtain ⟨s, m⟩ := y
      rw [hq] at hg hs
      refine ⟨fun h => (by rw [hg.1] at h; cases h), fun s' h => ?_⟩
      rw [hg.1] at h; cases h
      have U := codeB_len hg.2
      have hm := h20 m (List.mem_of_getElem? hg.2)
      refine ⟨(List.getElem?_eq_some_iff.mp hg.2).1, by omega, ?_, by rw [hs, U]⟩
      have := (List.findIdx?_eq_some_iff_getElem.mp hg.1)
      obtain ⟨h3, h4, _⟩ := this
      have e : (codesL tab)[s]'h3 = codeB tab s := by simp [codesL]
      rw [e] at h4
      simp only [begB, Bool.and_eq_true, decide_eq_true_eq] at h4
      exact h4.1
section
variable {ov : OvT} (H : OvH ov)
include H
theorem rPicksE_cr {h : Heap} {c : Nat} {L : List Bool} (hL : L.length ≤ 1000000) :
    CR Tryz.prog ov 176 [.string (zs L)] ⟨h, c⟩ (fun v st => ∃ (a : Option Addr) (n cp t bits to e : Nat), v = .agg #[.slice a n cp, nv t, nv bits, nv to, nv e] ∧
      ((e ≠ 0 ∧ Runs Pk.step pkF L Pk.none 0 (.error e)) ∨ (e = 0 ∧ ∃ p, Runs Pk.step pkF L Pk.none 0 (.ok (p, bits)) ∧ p.good ∧ p.done = true ∧ bits ≤ L.length ∧ n = p.picks.length ∧ t = p.t ∧ SlR 3 1 (p.picks.map nv) a n cp st.heap.get ∧ ∀ z ∈ own a, c ≤ z ∧ z < st.ctr)) ∧ Keep [] h c st) := by
  refine (rPicks_cr H hL).mono ?_
  rintro v st ⟨⟨r, hr, q⟩, k⟩
  cases r with
  | error e => obtain ⟨q0, to, q⟩ := q; exact ⟨none, 0, 0, 0, 0, to, e, q, .inl ⟨q0, hr⟩, k⟩
  | ok y => obtain ⟨p, n⟩ := y; obtain ⟨q1, q2, q3, a, cp, to, q4, q5, q6⟩ := q; exact ⟨a, _, cp, _, n, to, 0, q4, .inr ⟨rfl, p, hr, q1, q2, q3, rfl, rfl, q5, q6⟩, k⟩
theorem rTablesE_cr {h : Heap} {c k size : Nat} {L : List Bool} {pk : Pk} (hL : L.length ≤ 1000000) (hk : k ≤ L.length) (hz : 3 ≤ size ∧ size ≤ 258) (hp : pk.done = true) (ht : pk.t ≤ 6) :
    CR Tryz.prog ov 177 [.string (zs (L.drop k)), nv pk.t, nv size] ⟨h, c⟩ (fun v st => ∃ (a : Option Addr) (n cp bits e : Nat), v = .agg #[.slice a n cp, nv bits, nv e] ∧
      ((e ≠ 0 ∧ ∃ c' m, Steps coS coF L (coT size pk []) k c' m ∧ c'.done = false ∧ c'.out = [] ∧ coS c' (L.drop m) = .error e) ∨
       (e = 0 ∧ ∃ tabs bs, n = pk.t ∧ Steps coS coF L (coT size pk []) k (coT size pk tabs) (k + bits) ∧ k + bits ≤ L.length ∧ tabs.length = pk.t ∧ TabsOk size tabs ∧
         SlR 244 1 (bs.map (tv size)) a n cp st.heap.get ∧ TabR tabs bs st.heap.get ∧ (∀ z ∈ own a, c ≤ z ∧ z < st.ctr) ∧ ∀ z ∈ bs, c ≤ z ∧ z < st.ctr)) ∧ Keep [] h c st) := by
  refine (rTables_cr H hL hk hz hp ht).mono ?_
  rintro v st ⟨⟨c', m, e, a, n, cp, q1, q2, q3, q4, q5, q6⟩ | ⟨tabs, bits, bs, a, cp, q1, q2, q3, q4, q5, q6, q7, q8, q9⟩, k⟩
  · exact ⟨a, n, cp, 0, e, q6, .inl ⟨q5, c', m, q1, q2, q3, q4⟩, k⟩
  · exact ⟨a, _, cp, bits, 0, q5, .inr ⟨rfl, tabs, bs, rfl, q1, q2, q3, q4, q6, q7, q8, q9⟩, k⟩
theorem rGetE_cr {h : Heap} {c n cp : Nat} {cs : List (List Bool)} {A : List Bool} {a : Option Addr} (hS : SlR 9 1 (cs.map sv) a n cp h.get) (hn : n ≤ 1000) :
    CR Tryz.prog ov 178 [.slice a n cp, .string (zs A)] ⟨h, c⟩ (fun v st => ∃ x : Int, v = iv x ∧ ((x = -1 ∧ cs.findIdx? (begB A) = none) ∨ ∃ s : Nat, x = s ∧ cs.findIdx? (begB A) = some s) ∧ Same h c st) := by
  refine (rGet_cr H hS hn).mono ?_
  rintro v st ⟨q, k⟩
  cases hf : cs.findIdx? (begB A) with
  | none => rw [hf] at q; exact ⟨-1, q, .inl ⟨rfl, rfl⟩, k⟩
  | some s => rw [hf] at q; exact ⟨s, q, .inr ⟨s, rfl, rfl⟩, k⟩
theorem rSome_cr {h : Heap} {c size : Nat} {L : List Bool} (hL : L.length ≤ 1000000) (hz : 3 ≤ size ∧ size ≤ 258) :
    CR Tryz.prog ov 147 [.string (zs L), nv size] ⟨h, c⟩ (fun v st => ∃ (a : Option Addr) (n cp : Nat), v = .slice a n cp ∧ (∃ c' m, Last coS coF L (Co.new size) 0 c' m ∧ SlR 3 1 (c'.out.map nv) a n cp st.heap.get ∧ n ≤ L.length ∧ (∀ x ∈ c'.out, x < size) ∧ ∀ i, c'.out[i]? = some (size - 1) → i + 1 = n) ∧ (∀ z ∈ own a, c ≤ z ∧ z < st.ctr) ∧ Keep [] h c st) := by
  have hsz : (zs L).size = L.length := by rw [txt_size, zl_len]
  refine e_2 Tryz.func147 rfl (H _ (by decide)) Tryz.ntmps147 (by decide) ?_
  intro env U
  refine sg 1 J (qA U J (nK (sg 4 J (qM U J (qC U J (CR.mono (rPicksE_cr H hL) ?_))))))
  rintro v ⟨hh1, cc1⟩ ⟨a1, n1, cp1, t, b1, to, e1, rfl, hcase, hK1⟩
  have hcc1 := hK1.1
  dsimp only at hcc1 hcase
  refine qZ i238 z238 J (qV U rfl rfl gA p238 rfl rfl (by simp [Value.cells]) ?_)
  refine ro_gen (fun H2 hH2 => ?_)
  have hx2 : ∀ x, x ≠ c + 3 → H2.get x = hh1.get x := fun x hx => by rw [hH2]; simp only [T.get_set]; rw [if_neg (by omega), if_neg (by omega)]
  have hb5 : H2.get (c + 3) = some ⟨[.slice a1 n1 cp1, nv t, nv b1, nv to, nv e1], 238, 0⟩ := by rw [hH2, T.get_set, if_pos (by omega)]; rfl
  have hK2 : Keep [] h c ⟨H2, cc1⟩ := ⟨by dsimp only; omega, fun x hx _ => (hx2 x (by omega)).trans (hK1.2 x (by omega) (by simp))⟩
  refine nK (rS (sg 3 J (qF U J fa238_4 (qL U J gA ((p3.1 _ _).trans J) ?_))))
  refine qB U J J J (nK ?_)
  refine rC U rfl (fun herr => ?_) (fun herr => ?_)
  · try simp only [dz, dy] at herr
    refine sg 1 J (qA U J (nK (rR (kR (f_1 U J (.inl J) J ?_)))))
    have hd : e1 ≠ 0 ∧ Runs Pk.step pkF L Pk.none 0 (.error e1) := by rcases hcase with q | ⟨q, _⟩; exact q; (subst q; simp at herr)
    obtain ⟨p', m', s1, s2⟩ := (co_pk (size := size) hd.2).2 e1 rfl
    exact ⟨none, 0, 0, rfl, ⟨_, m', ⟨s1, .inr ⟨e1, s2⟩⟩, SlR.nil, Nat.zero_le _, by simp, by simp⟩, by simp [own], hK2.up (by omega)⟩
  · try simp only [dz, dy] at herr
    obtain ⟨rfl, p, hRp, hg, hpd, hb1, rfl, rfl, hS1, hO1⟩ : e1 = 0 ∧ ∃ p, Runs Pk.step pkF L Pk.none 0 (.ok (p, b1)) ∧ p.good ∧ p.done = true ∧ b1 ≤ L.length ∧ n1 = p.picks.length ∧ t = p.t ∧ SlR 3 1 (p.picks.map nv) a1 n1 cp1 hh1.get ∧ ∀ z ∈ own a1, c + 5 ≤ z ∧ z < cc1 := by rcases hcase with ⟨q, _⟩ | ⟨q, d, q1, q2, q3, q4, q5, q6, q7, q8⟩; (exfalso; simp at herr; omega); exact ⟨q, d, q1, q2, q3, q4, q5, q6, q7, fun x hx => by have := q8 x hx; omega⟩
    have hst1 := (co_pk (size := size) hRp).1 p b1 rfl
    refine rK (kN (rS (rD [] (by decide +kernel) (by decide +kernel) (n := 10) rfl ?_)))
    refine qM U J (qF U J fa238_2 (qL U J gA ((p3.1 _ _).trans J) ?_))
    refine qT (s := zl L) b1 (zl L).length U rfl Tryz.underlying9 rfl rfl ⟨by rw [zl_len]; omega, Nat.le_refl _⟩ ?_
    rw [zl_rest]
    refine qF U J fa238_1 (qL U J gA ((p3.1 _ _).trans J) ?_)
    refine qM U J (qC U J (CR.mono (rTablesE_cr H (k := b1) (pk := p) hL hb1 hz hpd hg.2.2.1) ?_))
    rintro v ⟨hh3, cc3⟩ ⟨a2, n2, cp2, b2, e2, rfl, hcase2, hK3⟩
    have hcc3 := hK3.1
    dsimp only at hcc3 hcase2
    refine qZ i242 z242 J (qV U rfl rfl gA p242 rfl rfl (by simp [Value.cells]) ?_)
    refine ro_gen (fun H5 hH5 => ?_)
    have hx5 : ∀ x, x ≠ cc1 + 11 → H5.get x = hh3.get x := fun x hx => by rw [hH5]; simp only [T.get_set]; rw [if_neg (by omega), if_neg (by omega)]
    have hb6 : H5.get (cc1 + 11) = some ⟨[.slice a2 n2 cp2, nv b2, nv e2], 242, 0⟩ := by rw [hH5, T.get_set, if_pos (by omega)]; rfl
    have hlow : ∀ x, x < cc1 → H5.get x = H2.get x := fun x hx => (hx5 x (by omega)).trans (hK3.2 x (by omega) (by simp))
    have hb55 := (hlow (c + 3) (by omega)).trans hb5
    have hK5 : Keep [] h c ⟨H5, cc3⟩ := ⟨by dsimp only; omega, fun x hx _ => (hlow x (by omega)).trans (hK2.2 x hx (by simp))⟩
    have hS15 := hS1.move (g' := H5.get) (fun x hx => by have := hO1 x hx; exact (hlow x (by omega)).trans (hx2 x (by omega)))
    refine ro_nild (kN (rS (sg 3 J (qF U J fa242_2 (qL U J gA ((p3.1 _ _).trans J) ?_)))))
    refine qB U J J J (nK ?_)
    refine rC U rfl (fun herr2 => ?_) (fun herr2 => ?_)
    · try simp only [dz, dy] at herr2
      refine sg 1 J (qA U J (nK (rR (kR (f_1 U J (.inl J) J ?_)))))
      have hd : e2 ≠ 0 ∧ ∃ c' m, Steps coS coF L (coT size p []) b1 c' m ∧ c'.done = false ∧ c'.out = [] ∧ coS c' (L.drop m) = .error e2 := by rcases hcase2 with q | ⟨q, _⟩; exact q; (subst q; simp at herr2)
      obtain ⟨_, c', m', s1, s2, s3, s4⟩ := hd
      exact ⟨none, 0, 0, rfl, ⟨c', m', ⟨hst1.trans s1, .inr ⟨e2, s4⟩⟩, by rw [s3]; exact SlR.nil, Nat.zero_le _, by rw [s3]; simp, by rw [s3]; simp⟩, by simp [own], hK5.up (by omega)⟩
    · try simp only [dz, dy] at herr2
      obtain ⟨rfl, tabs, bs, rfl, hst2, hb2, htl, hok, hS2, hT, hO2, hOb⟩ : e2 = 0 ∧ ∃ tabs bs, n2 = p.t ∧ Steps coS coF L (coT size p []) b1 (coT size p tabs) (b1 + b2) ∧ b1 + b2 ≤ L.length ∧ tabs.length = p.t ∧ TabsOk size tabs ∧ SlR 244 1 (bs.map (tv size)) a2 n2 cp2 hh3.get ∧ TabR tabs bs hh3.get ∧ (∀ z ∈ own a2, cc1 + 13 ≤ z ∧ z < cc3) ∧ ∀ z ∈ bs, cc1 + 13 ≤ z ∧ z < cc3 := by rcases hcase2 with ⟨q, _⟩ | ⟨q, tabs, bs, q1, q2, q3, q4, q5, q6, q7, q8, q9⟩; (exfalso; simp at herr2; omega); exact ⟨q, tabs, bs, q1, q2, q3, q4, q5, q6, q7, fun x hx => by have := q8 x hx; omega, fun x hx => by have := q9 x hx; omega⟩
      have hS25 := hS2.move (g' := H5.get) (fun x hx => by have := hO2 x hx; exact hx5 x (by omega))
      have hT5 := hT.move (g' := H5.get) (fun x hx => by have := hOb x hx; exact hx5 x (by omega))
      have hst := hst1.trans hst2
      refine rK (kN (sg 6 J (qF U J fa238_2 (qL U J gA ((p3.1 _ _).trans J) ?_))))
      refine qF U J fa242_1 (qL U J gA ((p3.1 _ _).trans J) ?_)
      refine qP U J J wA ?_
      refine qA U J (nK (sg 1 J (qA U J (nK (rS (rB ?_))))))
      refine rL (fun m env' s' => ∃ out at_ a cp, m = L.length - at_ ∧ Hd 75 [(0, .string (zs L)), (1, nv size), (5, ptr (c + 3)), (6, ptr (cc1 + 11)), (7, nv at_), (8, .slice a out.length cp)] env' ∧ Steps coS coF L (Co.new size) 0 (coO size p tabs out false) at_ ∧ out.length ≤ at_ ∧ at_ ≤ L.length ∧ (∀ x ∈ out, x + 1 < size) ∧ SlR 3 1 (out.map nv) a out.length cp s'.heap.get ∧ (∀ z ∈ own a, cc3 ≤ z ∧ z < s'.ctr) ∧ Keep [] H5 cc3 s') (L.length - (b1 + b2)) ?_ ?_
      · exact ⟨[], b1 + b2, none, 0, rfl, Ho U ⟨rfl, rfl, rfl, rfl, rfl, rfl, trivial⟩, hst, Nat.zero_le _, hb2, by simp, SlR.nil, by simp [own], Keep.refl (by omega)⟩
      rintro m _ ⟨h6, c6⟩ ⟨out, at_, a, cp, rfl, ⟨env, U, rfl⟩, hSt, hoa, hal, hos, hS, hO, hKL⟩
      dsimp only at hS hO
      have hcL := hKL.1
      dsimp only at hcL
      have hb5L := (hKL.2 (c + 3) (by omega) (by simp)).trans hb55
      have hb6L := (hKL.2 (cc1 + 11) (by omega) (by simp)).trans hb6
      have hsym := co_sym (l := L.drop at_) (size := size) (out := out) hpd htl
      have hld : (L.drop at_).length = L.length - at_ := List.length_drop
      refine rS (sg 7 J (qM U J (q_lenL U J Tryz.underlying171 (q_quo U rfl rfl ⟨by omega, by omega⟩ wA ?_))))
      refine qF U J fa238_0 (qL U J gA ((p171.1 _ _).trans J) ?_)
      refine q_lenL U J Tryz.underlying171 (qB U J J J (nK ?_))
      refine rC U rfl (fun hlt => ?_) (fun hlt => ?_)
      · try simp only [dz, dy] at hlt
        obtain ⟨pick, hpick⟩ : ∃ pick, p.picks[out.length / 50]? = some pick := ⟨_, List.getElem?_eq_getElem (by omega)⟩
        have hpt := hg.2.2.2.2.2.1 pick (List.mem_of_getElem? hpick)
        obtain ⟨tab, htab⟩ : ∃ tab, tabs[pick]? = some tab := ⟨_, List.getElem?_eq_getElem (by omega)⟩
        obtain ⟨bn, hbn⟩ : ∃ bn, bs[pick]? = some bn := ⟨_, List.getElem?_eq_getElem (by rw [hT.1]; omega)⟩
        have hbk := hT5.2 pick bn tab hbn htab
        have hbl := hOb bn (List.mem_of_getElem? hbn)
        have hbkL := (hKL.2 bn (by omega) (by simp)).trans hbk
        obtain ⟨ol1, ol2, ol3⟩ := hok tab (List.mem_of_getElem? htab)
        have hsy := hsym.2 pick tab hpick htab ol2 ol3
        obtain ⟨mb1, rfl, rfl, hmb1⟩ := hS15.pos (by omega)
        obtain ⟨mb2, rfl, rfl, hmb2⟩ := hS25.pos (by omega)
        have hmb1L := (hKL.2 mb1 (by have := hO1 mb1 (by simp [own]); omega) (by simp)).trans hmb1
        have hmb2L := (hKL.2 mb2 (by have := hO2 mb2 (by simp [own]); omega) (by simp)).trans hmb2
        refine rK (kN (rB (rS (rD [] (by decide +kernel) (by decide +kernel) (n := 12) rfl ?_))))
        refine qF U J fa242_0 (qL U J gA ((p240.1 _ _).trans J) ?_)
        refine qF U J fa238_0 (qL U J gA ((p171.1 _ _).trans J) ?_)
        refine qM U J (q_lenL U J Tryz.underlying171 (q_quo U rfl rfl ⟨by omega, by omega⟩ wA ?_))
        refine qI U rfl rfl e171 ⟨by omega, by omega⟩ ?_
        refine qL U rfl gA ((p3.1 _ _).trans (by rw [show 0 + ((out.length : Int) / 50).toNat * 1 = out.length / 50 by omega, List.getElem?_map, hpick]; rfl)) (v := nv pick) ?_
        refine qI U rfl rfl e240 ⟨by omega, by omega⟩ ?_
        refine qL U rfl gA ((p244.1 _ _).trans (by rw [show 0 + ((pick : Nat) : Int).toNat * 1 = pick by omega, List.getElem?_map, hbn]; rfl)) (v := tv size bn) ?_
        refine qA U J (ro_nild (kN (sg 6 J (qM U J (qM U J (qM U J (qT (s := zl L) at_ (zl L).length U rfl Tryz.underlying9 rfl rfl ⟨by rw [zl_len]; omega, Nat.le_refl _⟩ ?_)))))))
        rw [zl_rest]
        refine qC U J (CR.mono (rGetE_cr H (cs := codesL tab) (.inr ⟨bn, rfl, rfl, hbkL, by simp [codesL, ol1], by omega⟩) oA) ?_)
        rintro v ⟨hh7, cc7⟩ ⟨x, rfl, hx, rfl, hk7⟩
        dsimp only at hk7
        refine qA U J (nK (rS (sg 2 J (qM U J (qB U J J J (nK ?_))))))
        refine rC U rfl (fun hneg => ?_) (fun hneg => ?_)
        · try simp only [dz, dy] at hneg
          refine sg 2 J (qM U J (qA U J (nK (rR (kR (k_bloR (kR (k_bloR (kR (f_1 U J (.inl J) J ?_))))))))))
          have hxn : x = -1 ∧ (codesL tab).findIdx? (begB (L.drop at_)) = none := by rcases hx with q | ⟨s, q, _⟩; exact q; omega
          exact ⟨a, out.length, cp, rfl, ⟨_, at_, ⟨hSt, .inr ⟨3, hsy.1 hxn.2⟩⟩, hS, by omega, fun x hx => by have := hos x hx; omega, fun i hi => by have := hos _ (List.mem_of_getElem? hi); omega⟩, fun z hz => by have := hO z hz; dsimp only; omega, (hK5.call hKL (by simp)).up (by omega)⟩
        · try simp only [dz, dy] at hneg
          obtain ⟨s, rfl, hfs⟩ : ∃ s : Nat, x = s ∧ (codesL tab).findIdx? (begB (L.drop at_)) = some s := by rcases hx with ⟨q, _⟩ | q; omega; exact q
          obtain ⟨hs1, hs2, hs3, hs4⟩ := hsy.2 s hfs
          refine rK (kN (sg 8 J (qM U J (qM U J (qM U J (qI U rfl rfl e244 ⟨by omega, by omega⟩ ?_))))))
          refine qL U rfl gA ((p9.1 _ _).trans (by rw [show 0 + ((s : Nat) : Int).toNat * 1 = s by omega, List.getElem?_map, codesL_get hs1]; rfl)) (v := sv (codeB tab s)) ?_
          refine qK U J Tryz.underlying9 ?_
          rw [txt_size, zl_len]
          refine qP U J J wA ?_
          refine qA U J (nK (sg 5 J (qM U J (qM U J (q1_ U J a171 J (qX U rfl rfl a171 a171 (hS.move (fun z hz => by have := hO z hz; rw [T.get_set, if_neg oA])) ((T.get_set _ _ _ _).trans (if_pos rfl)) rfl oA oA ?_))))))
          intro a8 cp8 h8 hS8 hO8 hF8
          have hKL8 := hKL.app2 hF8 (fun z hz => .inl (hO z hz).1) (by omega) (by omega) (Nat.le_refl _)
          have hst8 := hSt.trans (.more rfl hs4 (.refl _ _))
          have e8 : (out ++ [s]).map nv = out.map nv ++ [nv s] := List.map_append
          refine qA U J (nK (sg 4 J (qM U J (qM U J (q_sub U J J wA ?_)))))
          refine qB U J J J (nK ?_)
          refine rC U rfl (fun hend => ?_) (fun hend => ?_)
          · try simp only [dz, dy] at hend
            refine sg 2 J (qM U J (qA U J (nK (rR (k_bloR (kR (k_bloR (kR (f_1 U J (.inl J) J ?_)))))))))
            have hse : (s + 1 == size) = true := by simp; omega
            refine ⟨a8, out.length + 1, cp8, rfl, ⟨_, _, ⟨hst8, .inl hse⟩, by dsimp only; rw [e8]; exact hS8, by omega, fun x hx => ?_, fun i hi => ?_⟩, fun z hz => by have := hO8 z hz; dsimp only; omega, (hK5.call hKL8 (by simp)).up oA⟩
            · rcases List.mem_append.mp hx with q | q; (have := hos x q; omega); (simp at q; omega)
            · dsimp only at hi; rcases Nat.lt_or_ge i out.length with q | q; (rw [List.getElem?_append_left q] at hi; have := hos _ (List.mem_of_getElem? hi); omega); (have := (List.getElem?_eq_some_iff.mp hi).1; rw [List.length_append] at this; simp at this; omega)
          · try simp only [dz, dy] at hend
            have hse : (s + 1 == size) = false := by simp; omega
            rw [hse] at hst8
            refine rK (kO (kN ?_))
            exact ⟨_, by omega, out ++ [s], at_ + (codeB tab s).length, a8, cp8, rfl, Ho U ⟨rfl, rfl, rfl, rfl, rfl, by rw [List.length_append]; rfl, trivial⟩, hst8, by rw [List.length_append]; simp; omega, by omega, fun x hx => by rcases List.mem_append.mp hx with q | q; (exact hos x q); (simp at q; subst q; simp at hse; omega), by rw [e8, List.length_append]; exact hS8, fun z hz => by have := hO8 z hz; dsimp only; omega, hKL8.up (by omega)⟩
      · try simp only [dz, dy] at hlt
        refine r_exit (kE (kE (kB (kN (sg 2 J (qM U J (qA U J (nK (rR (f_1 U J (.inl J) J ?_))))))))))
        exact ⟨a, out.length, cp, rfl, ⟨_, at_, ⟨hSt, .inr ⟨25, hsym.1 (by omega)⟩⟩, hS, by omega, fun x hx => by have := hos x hx; omega, fun i hi => by have := hos _ (List.mem_of_getElem? hi); omega⟩, fun z hz => by have := hO z hz; dsimp only; omega, (hK5.call hKL (by simp)).up (by omega)⟩
end
end Go.Proofs.YtegjkhgaoabfcaaGreat
