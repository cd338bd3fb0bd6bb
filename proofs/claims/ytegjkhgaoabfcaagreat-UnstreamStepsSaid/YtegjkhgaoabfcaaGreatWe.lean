/- Part 5 (a part of the proof of UnstreamSteps; no condition). -/
import Derived.Test.YtegjkhgaoabfcaaGreatWd
set_option linter.unusedSimpArgs false
set_option linter.unusedVariables false
set_option maxRecDepth 10000
namespace Go.Proofs.YtegjkhgaoabfcaaGreat
open Go.AE
def DeR (d : De) (b : Nat) (a : Option Addr) (g : Nat → Option Blk) : Prop := d.good ∧ ∃ cp, g b = some ⟨[nv d.size, nv d.now, .slice a d.lens.length cp, .bool false], 328, 0⟩ ∧ SlR 3 1 (d.lens.map nv) a d.lens.length cp g
theorem DeR.move {d : De} {b : Nat} {a : Option Addr} {g g' : Nat → Option Blk} (h : DeR d b a g) (hg : ∀ z, z = b ∨ z ∈ own a → g' z = g z) : DeR d b a g' := by
  obtain ⟨h0, cp, h1, h2⟩ := h
  exact ⟨h0, cp, (hg b (.inl rfl)).trans h1, h2.move (fun z hz => hg z (.inr hz))⟩
theorem drop_cons {all : List Bool} {k : Nat} {t : Bool} (h : all[k]? = some t) : all.drop k = t :: all.drop (k + 1) := by
  have hk : k < all.length := by rcases Nat.lt_or_ge k all.length with q | q; exact q; rw [List.getElem?_eq_none q] at h; cases h
  rw [List.drop_eq_getElem_cons hk]; rw [List.getElem?_eq_getElem hk] at h; rw [Option.some.inj h]
section
variable {ov : OvT} (H : OvH ov)
include H
theorem deSized_cr {h : Heap} {c n : Nat} :
    CR Tryz.prog ov 269 [nv n] ⟨h, c⟩ (fun v st => v = .bool (3 ≤ n && n ≤ 258) ∧ Same h c st) := by
  refine e_1 Tryz.func269 rfl (H _ (by decide)) Tryz.ntmps269 (by decide) ?_
  intro env U
  refine sg 1 J (qA U J (nK (sg 7 J (qM U J (qB U J J J (qM U J ?_))))))
  refine q_case U (rfl : lk _ _ 5 = _) (fun hg => ?_) (fun hg => ?_)
  · have hg_ := hg
    try simp only [dz] at hg_
    refine qG U J J J hg (qM U J (qG U J J J hg (qB U J J J (qQ U J J J (if_pos hg) (qA U J (nK (rR (f_1 U J (.inl J) J ?_))))))))
    refine ⟨?_, rfl, by simp <;> omega⟩
    have q : 3 ≤ n := by omega
    simp [q]
    omega
  · have hg_ := hg
    try simp only [dz] at hg_
    refine qS U rfl rfl rfl rfl (by rw [hg]; decide) ?_
    refine qS U rfl rfl rfl rfl (by rw [hg]; decide) ?_
    refine qQ U rfl rfl rfl (if_neg (by rw [hg]; decide)) ?_
    refine qA U J (nK (rR (f_1 U J (.inl J) J ?_)))
    refine ⟨?_, rfl, by simp <;> omega⟩
    have q : ¬ 3 ≤ n := by omega
    simp [q]
theorem deLength_cr {h : Heap} {c n : Nat} :
    CR Tryz.prog ov 282 [nv n] ⟨h, c⟩ (fun v st => v = .bool (1 ≤ n && n ≤ 20) ∧ Same h c st) := by
  refine e_1 Tryz.func282 rfl (H _ (by decide)) Tryz.ntmps282 (by decide) ?_
  intro env U
  refine sg 1 J (qA U J (nK (sg 7 J (qM U J (qB U J J J (qM U J ?_))))))
  refine q_case U (rfl : lk _ _ 5 = _) (fun hg => ?_) (fun hg => ?_)
  · have hg_ := hg
    try simp only [dz] at hg_
    refine qG U J J J hg (qM U J (qG U J J J hg (qB U J J J (qQ U J J J (if_pos hg) (qA U J (nK (rR (f_1 U J (.inl J) J ?_))))))))
    refine ⟨?_, rfl, by simp <;> omega⟩
    have q : 1 ≤ n := by omega
    simp [q]
    omega
  · have hg_ := hg
    try simp only [dz] at hg_
    refine qS U rfl rfl rfl rfl (by rw [hg]; decide) ?_
    refine qS U rfl rfl rfl rfl (by rw [hg]; decide) ?_
    refine qQ U rfl rfl rfl (if_neg (by rw [hg]; decide)) ?_
    refine qA U J (nK (rR (f_1 U J (.inl J) J ?_)))
    refine ⟨?_, rfl, by simp <;> omega⟩
    have q : ¬ 1 ≤ n := by omega
    simp [q]
theorem deNew_cr {h : Heap} {c n : Nat} (hn : 3 ≤ n ∧ n ≤ 258) :
    CR Tryz.prog ov 256 [nv n] ⟨h, c⟩ (fun v st => ∃ b, v = .tuple #[ptr b, nv 0] ∧ DeR ⟨n, 0, []⟩ b none st.heap.get ∧ c ≤ b ∧ b < st.ctr ∧ Keep [] h c st) := by
  refine e_1 Tryz.func256 rfl (H _ (by decide)) Tryz.ntmps256 (by decide) ?_
  intro env U
  refine sg 2 J (qA U J (qA U J (nK (rS (sg 3 J (qM U J (qC U J (CR.mono (deSized_cr H) ?_))))))))
  rintro v ⟨hh1, cc1⟩ ⟨rfl, rfl, hk⟩
  try dsimp only at hk
  refine q_un U J J (nK (rF U rfl (by simp [hn.1, hn.2]) ?_))
  refine rK (kN (sg 5 J (qM U J (qU U rfl i328 z328 rfl (by simp [Program.built, Instr.fill, Tryz.underlying328, Value.cells]; rfl) ?_))))
  refine q_box U J (qA U J (qA U J (nK (rR (f_2 U J (.inl J) J J ?_)))))
  refine ⟨_, rfl, ⟨⟨hn.1, hn.2, Nat.zero_le _, Nat.zero_le _, by simp⟩, 0, ?_, SlR.nil⟩, by omega, by dsimp only; omega, (Keep.refl oA).set (.inl oA)⟩
  simp [T.get_set, Value.cells]
theorem deDone_cr {h : Heap} {c b : Nat} {d : De} {a : Option Addr} (hP : DeR d b a h.get) :
    CR Tryz.prog ov 263 [ptr b] ⟨h, c⟩ (fun v st => v = .bool d.done ∧ Same h c st) := by
  obtain ⟨h0, cp, hb, hS⟩ := hP
  refine e_1 Tryz.func263 rfl (H _ (by decide)) Tryz.ntmps263 (by decide) ?_
  intro env U
  refine sg 1 J (qA U J (nK (rS (rD [] (by decide +kernel) (by decide +kernel) (n := 15) rfl ?_))))
  refine qM U J (qB U J J (nn211 _) (qM U J (qG U J J J J (qM U J (qG U J J J J (qN U J (qG U J J J J (qF U J fa328_2 (qG U J J J J (qL U J aA ((p171.1 _ _).trans J) ?_))))))))))
  refine qG U J J J J (q_lenL U J Tryz.underlying171 (qG U J J J J (qM U J (qG U J J J J (qN U J (qG U J J J J (qF U J fa328_0 (qG U J J J J (qL U J aA ((p3.1 _ _).trans J) ?_)))))))))
  refine qG U J J J J (qB U J J J (qQ U J J J (if_pos J) (qA U J (ro_nild (kN (rR (f_1 U J (.inl J) J ?_)))))))
  refine ⟨?_, rfl, by simp <;> omega⟩
  simp [De.done]
  rw [Bool.eq_iff_iff]; simp
  omega
theorem deLens_cr {h : Heap} {c b : Nat} {d : De} {a : Option Addr} (hP : DeR d b a h.get) (hc : ∀ z ∈ own a, z < c) :
    CR Tryz.prog ov 265 [ptr b] ⟨h, c⟩ (fun v st => ∃ a' cp', v = .slice a' d.lens.length cp' ∧ SlR 3 1 (d.lens.map nv) a' d.lens.length cp' st.heap.get ∧ (∀ z ∈ own a', c ≤ z ∧ z < st.ctr) ∧ Keep [] h c st) := by
  obtain ⟨h0, cp, hb, hS⟩ := hP
  have hn := h0.2.1; have hn2 := h0.2.2.2.1
  refine e_1 Tryz.func265 rfl (H _ (by decide)) Tryz.ntmps265 (by decide) ?_
  intro env U
  refine sg 1 J (qA U J (nK (rS (sg 2 J (qM U J (qB U J J (nq211 _) (nK (rF U J dA ?_))))))))
  refine rK (kN (sg 6 J (qM U J (qN U J (qF U J fa328_2 (qL U J aA ((p171.1 _ _).trans J) ?_))))))
  refine qC U J (CR.mono (clone_cr H hS (fun z hz => by have := hc z hz; omega) oA) ?_)
  rintro v ⟨hh1, cc1⟩ ⟨a', cp', rfl, hS', hO', hK'⟩
  refine qA U J (nK (rR (f_1 U J (.inl J) J ?_)))
  exact ⟨a', cp', rfl, hS', fun z hz => by have := hO' z hz; dsimp only at *; omega, (hK'.base (by omega)).up (by omega)⟩
theorem deTurned_cr {h : Heap} {c b x : Nat} {d : De} {a : Option Addr} (hP : DeR d b a h.get) :
    CR Tryz.prog ov 279 [ptr b, nv x] ⟨h, c⟩ (fun v st => (if 1 ≤ x ∧ x ≤ 20 then v = nv 0 ∧ DeR { d with now := x } b a st.heap.get else v = nv 22) ∧ Keep [b] h c st) := by
  obtain ⟨h0, cp, hb, hS⟩ := hP
  have hbo := own_ne hS hb (by dsimp only; decide)
  refine e_2 Tryz.func279 rfl (H _ (by decide)) Tryz.ntmps279 (by decide) ?_
  intro env U
  refine sg 1 J (qA U J (nK (rS (sg 3 J (qM U J (qC U J (CR.mono (deLength_cr H) ?_)))))))
  rintro v ⟨hh1, cc1⟩ ⟨rfl, rfl, hk⟩
  try dsimp only at hk
  refine q_un U J J (nK ?_)
  refine rC U rfl (fun hbad => ?_) (fun hbad => ?_)
  · try simp only [dz, dy] at hbad
    refine sg 4 J (qM U J (qN U J (qF U J fa328_3 (qW U rfl rfl aA p4 rfl rfl (by first | decide | (simp; done) | (simp; omega)) ?_))))
    refine nK (sg 1 J (qA U J (nK (rR (kR (f_1 U J (.inl J) J ?_))))))
    rw [if_neg (by simp at hbad; omega)]
    exact ⟨rfl, ((Keep.refl (Nat.le_refl c)).set (.inr (by simp))).up (by omega)⟩
  · try simp only [dz, dy] at hbad
    refine rK (kN (sg 5 J (qM U J (qM U J (qN U J (qF U J fa328_1 (qW U rfl rfl aA p3 rfl rfl (by first | decide | (simp; done) | (simp; omega)) ?_)))))))
    refine nK (sg 1 J (qA U J (nK (rR (f_1 U J (.inl J) J ?_)))))
    have hx : 1 ≤ x ∧ x ≤ 20 := by simpa using hbad
    rw [if_pos hx]
    refine ⟨⟨rfl, ⟨h0.1, h0.2.1, hx.2, h0.2.2.2⟩, cp, ?_, hS.move ?_⟩, ((Keep.refl (Nat.le_refl c)).set (.inr (by simp))).up oA⟩
    · dsimp only; rw [T.get_set, if_pos rfl]; rfl
    · intro z hz; have : z ≠ b := fun e => hbo (e ▸ hz)
      dsimp only; rw [T.get_set, if_neg this]
theorem deStep0_cr {h : Heap} {c b r dr at_ : Nat} {all : List Bool} {d : De} {a : Option Addr} (hP : DeR d b a h.get) (hR : BitR all dr at_ (h.get r)) (hc : b < c ∧ r < c ∧ ∀ z ∈ own a, z < c) (hd : d.done = false) :
    CR Tryz.prog ov 274 [ptr b, ptr r] ⟨h, c⟩ (fun v st => (match d.step (all.drop at_) with
      | .ok (d', n) => v = nv 0 ∧ BitR all dr (at_ + n) (st.heap.get r) ∧ ∃ a', DeR d' b a' st.heap.get ∧ ∀ z ∈ own a', z ∈ own a ∨ c ≤ z ∧ z < st.ctr
      | .error e => v = nv e ∧ (e = 3 → DeR d b a st.heap.get) ∧ ∃ k, at_ ≤ k ∧ BitR all dr k (st.heap.get r)) ∧ Keep (r :: b :: own a) h c st) := by
  obtain ⟨hb1, hr1, ha1⟩ := hc
  obtain ⟨hg, cp, hb, hS⟩ := id hP
  have hne : r ≠ b := hR.ne hb (by dsimp only; decide)
  have hno := hR.own hS (by decide)
  have hbo := own_ne hS hb (by dsimp only; decide)
  have hln : (all.drop at_).length = all.length - at_ := List.length_drop
  have hlen : d.lens.length < d.size := by have := hg.2.2.2.1; simp [De.done] at hd; omega
  have hsz := hg.2.1
  have h20 := hg.2.2.1
  refine e_2 Tryz.func274 rfl (H _ (by decide)) Tryz.ntmps274 (by decide) ?_
  intro env U
  refine sg 1 J (qA U J (nK (rS (sg 5 J (qM U J (qN U J (qF U J fa328_1 (qL U J gA ((p3.1 _ _).trans J) ?_))))))))
  refine qB U J J J (nK ?_)
  refine rC U rfl (fun hn0 => ?_) (fun hn0 => ?_)
  · try simp only [dz, dy] at hn0
    refine sg 7 J (qM U J (qC U J (CR.mono ((get_any H hR oA oA (n := 5))) ?_)))
    rintro v ⟨hh1, cc1⟩ ⟨e9, w9, rfl, hG, hGK⟩
    have hcc1 : c + 1 + 5 + 7 ≤ cc1 := hGK.1
    have hK1 := hGK.base (c0 := c) (by omega)
    have hP2 := hP.move (fun z hz => hK1.2 z (by rcases hz with rfl | hz; omega; have := ha1 z hz; omega) (by simp; rintro rfl; rcases hz with hz | hz; exact hne hz; exact hno hz))
    refine qM U J (qE U J J (qE U J J (qA U J (qA U J (nK (rS (sg 2 J (qM U J (qB U J J J (nK ?_))))))))))
    refine rC U rfl (fun he => ?_) (fun he => ?_)
    · try simp only [dz, dy] at he
      refine sg 2 J (qM U J (qA U J (nK (rR (kR (kR (f_1 U J (.inl J) J ?_)))))))
      rcases hG with ⟨hlt, rfl, _, hR4⟩ | ⟨_, rfl, _, _⟩
      · have hu : d.step (all.drop at_) = .error 3 := by simp only [De.step]; rw [if_pos (by omega), if_pos (by omega)]
        rw [hu]; exact ⟨⟨rfl, fun _ => hP2, _, Nat.le_refl _, hR4⟩, (hK1.weak (by simp)).up (by omega)⟩
      · simp at he
    · try simp only [dz, dy] at he
      rcases hG with ⟨_, rfl, _, _⟩ | ⟨hle, _, rfl, hR4⟩
      · simp at he
      have e5 : ((all.drop at_).take 5).length = 5 := by rw [List.length_take]; omega
      have hlt5 := num_lt ((all.drop at_).take 5); rw [e5] at hlt5
      refine rK (kN (sg 5 J (qM U J (qM U J (qH U J Tryz.underlying38 Tryz.underlying3 wA ?_)))))
      refine qC U J (CR.mono (deTurned_cr H hP2) ?_)
      rintro v ⟨hh2, cc2⟩ ⟨hv, hK3⟩
      refine qA U J (nK (rR (kR (f_1 U J (.inl J) J ?_))))
      have hK := ((hK1.weak (W' := r :: b :: own a) (by simp)).up (c3 := cc1 + 2 + 5) (by omega)).call hK3 (fun x hx => .inr (by simp at hx; simp [hx])) |>.up (c3 := cc2) (Nat.le_refl _)
      have hR5 := hR4.move (hK3.2 r (by omega) (by simpa using hne))
      by_cases q : 1 ≤ num ((all.drop at_).take 5) ∧ num ((all.drop at_).take 5) ≤ 20
      · rw [if_pos q] at hv; obtain ⟨rfl, hP3⟩ := hv
        have hu : d.step (all.drop at_) = .ok ({ d with now := num ((all.drop at_).take 5) }, 5) := by simp only [De.step]; rw [if_pos (by omega), if_neg (by omega), if_neg (by omega)]
        rw [hu]; exact ⟨⟨rfl, hR5, a, hP3, fun z hz => .inl hz⟩, hK⟩
      · rw [if_neg q] at hv; subst hv
        have hu : d.step (all.drop at_) = .error 22 := by simp only [De.step]; rw [if_pos (by omega), if_neg (by omega), if_pos (by omega)]
        rw [hu]; exact ⟨⟨rfl, fun q => absurd q (by decide), _, by omega, hR5⟩, hK⟩
  · try simp only [dz, dy] at hn0
    refine rK (kN (sg 7 J (qM U J (qC U J (CR.mono ((get_any H hR oA oA (n := 1))) ?_)))))
    rintro v ⟨hh3, cc3⟩ ⟨e9, w9, rfl, hG, hGK⟩
    have hcc1 : c + 1 + 5 + 7 ≤ cc3 := hGK.1
    have hK1 := hGK.base (c0 := c) (by omega)
    have hP2 := hP.move (fun z hz => hK1.2 z (by rcases hz with rfl | hz; omega; have := ha1 z hz; omega) (by simp; rintro rfl; rcases hz with hz | hz; exact hne hz; exact hno hz))
    obtain ⟨_, cp2, hb2, hS2⟩ := id hP2
    refine qM U J (qE U J J (qE U J J (qA U J (qA U J (nK (rS (sg 2 J (qM U J (qB U J J J (nK ?_))))))))))
    refine rC U rfl (fun he => ?_) (fun he => ?_)
    · try simp only [dz, dy] at he
      refine sg 2 J (qM U J (qA U J (nK (rR (kR (f_1 U J (.inl J) J ?_))))))
      rcases hG with ⟨hlt, rfl, _, hR4⟩ | ⟨_, rfl, _, _⟩
      · have hu : d.step (all.drop at_) = .error 3 := by rw [List.drop_eq_nil_of_le (by omega)]; simp only [De.step]; rw [if_neg (by omega)]
        rw [hu]; exact ⟨⟨rfl, fun _ => hP2, _, Nat.le_refl _, hR4⟩, (hK1.weak (by simp)).up (by omega)⟩
      · simp at he
    · try simp only [dz, dy] at he
      rcases hG with ⟨_, rfl, _, _⟩ | ⟨hle, _, rfl, hR4⟩
      · simp at he
      obtain ⟨t, ht⟩ : ∃ t, all[at_]? = some t := ⟨_, List.getElem?_eq_getElem (by omega)⟩
      have hd1 := drop_cons ht
      simp only [show (all.drop at_).take 1 = [t] by rw [hd1]; rfl]
      refine rK (kN (rS (sg 2 J (qM U J (qB U J J J (nK ?_))))))
      refine rC U rfl (fun ht0 => ?_) (fun ht0 => ?_)
      · try simp only [dz, dy] at ht0
        have htt : t = false := by cases t with | false => rfl | true => (simp [num] at ht0)
        subst htt
        refine rS (rD [] (by decide +kernel) (by decide +kernel) (n := 14) rfl ?_)
        refine qM U J (qM U J (qN U J (qF U J fa328_2 (qL U J gA ((p171.1 _ _).trans J) ?_))))
        refine qM U J (qN U J (qF U J fa328_1 (qL U J gA ((p3.1 _ _).trans J) ?_)))
        refine q1_ U J a171 J (qX U rfl rfl a171 a171 (hS2.move (fun z hz => by have := ha1 z hz; rw [T.get_set, if_neg oA])) ((T.get_set _ _ _ _).trans (if_pos rfl)) rfl oA oA ?_)
        intro a2 cp3 h4 hS4 hO4 hF4
        have hb4 := (hF4 b (by omega) hbo).trans ((T.get_set _ _ _ _).trans ((if_neg (by omega)).trans hb2))
        refine qN U J (qF U J fa328_2 (qW U rfl rfl gA p171 rfl rfl (by first | decide | (simp; done) | (simp; omega)) ?_))
        refine ro_nild (kN (sg 1 J (qA U J (nK (rR (kR (f_1 U J (.inl J) J ?_)))))))
        have hu : d.step (all.drop at_) = .ok ({ d with lens := d.lens ++ [d.now] }, 1) := by rw [hd1]; simp only [De.step]; rw [if_neg (by omega)]
        rw [hu]
        refine ⟨⟨rfl, hR4.move ?_, a2, ⟨⟨hg.1, hg.2.1, hg.2.2.1, by simp; omega, ?_⟩, cp3, ?_, ?_⟩, fun z hz => .inr (by have := hO4 z hz; dsimp only; omega)⟩, ?_⟩
        · dsimp only; rw [T.get_set, if_neg hne, hF4 r (by omega) hno, T.get_set, if_neg (by omega)]
        · intro x hx; rcases List.mem_append.mp hx with q | q
          · exact hg.2.2.2.2 x q
          · simp only [List.mem_singleton] at q; omega
        · dsimp only; rw [T.get_set, if_pos rfl]; simp
        · dsimp only; rw [List.map_append, List.length_append]; exact hS4.move (fun z hz => by rw [T.get_set, if_neg (by have := hO4 z hz; omega)])
        · exact ((hK1.weak (by simp)).app2 hF4 (fun z hz => .inr (by simp [hz])) (by omega) (by omega) (by omega)).set (.inr (by simp))
      · try simp only [dz, dy] at ht0
        have htt : t = true := by cases t with | true => rfl | false => (simp [num] at ht0)
        subst htt
        refine rK (kN (sg 7 J (qM U J (qC U J (CR.mono ((get_any H hR4 oA oA (n := 1))) ?_)))))
        rintro v ⟨hh4, cc4⟩ ⟨e8, w8, rfl, hG8, hGK8⟩
        have hcc2 : cc3 + 2 + 2 + 7 ≤ cc4 := hGK8.1
        have hK2 := hK1.call (hGK8.base (c0 := cc3) (by omega)) (fun x hx => .inr hx)
        have hP3 := hP.move (fun z hz => hK2.2 z (by rcases hz with rfl | hz; omega; have := ha1 z hz; omega) (by simp; rintro rfl; rcases hz with hz | hz; exact hne hz; exact hno hz))
        obtain ⟨_, cp3, hb3, hS3⟩ := id hP3
        refine qM U J (qE U J J (qE U J J (qA U J (qA U J (nK (rS (sg 2 J (qM U J (qB U J J J (nK ?_))))))))))
        refine rC U rfl (fun he8 => ?_) (fun he8 => ?_)
        · try simp only [dz, dy] at he8
          refine sg 2 J (qM U J (qA U J (nK (rR (kR (f_1 U J (.inl J) J ?_))))))
          rcases hG8 with ⟨hlt, rfl, _, hR6⟩ | ⟨_, rfl, _, _⟩
          · have hu : d.step (all.drop at_) = .error 3 := by rw [hd1, List.drop_eq_nil_of_le (by omega)]; simp only [De.step]; rw [if_neg (by omega)]
            rw [hu]; exact ⟨⟨rfl, fun _ => hP3, _, by omega, hR6⟩, (hK2.weak (by simp)).up (by omega)⟩
          · simp at he8
        · try simp only [dz, dy] at he8
          rcases hG8 with ⟨_, rfl, _, _⟩ | ⟨hle8, _, rfl, hR6⟩
          · simp at he8
          obtain ⟨t, ht⟩ : ∃ t, all[at_ + 1]? = some t := ⟨_, List.getElem?_eq_getElem (by omega)⟩
          have hd2 := drop_cons ht
          simp only [show (all.drop (at_ + 1)).take 1 = [t] by rw [hd2]; rfl]
          have hnt : num [t] = t.toNat := by cases t <;> rfl
          have hnt2 : t.toNat ≤ 1 := by cases t <;> decide
          refine rK (kN (sg 12 J (qM U J (qM U J (qN U J (qF U J fa328_1 (qL U J gA ((p3.1 _ _).trans J) ?_)))))))
          refine qP U J J wA ?_
          refine qM U J (qH U J Tryz.underlying38 Tryz.underlying3 wA ?_)
          refine q_mul U J J wA ?_
          refine q_sub U J J wA ?_
          have e66 : (d.now : Int) + 1 - 2 * ((num [t] : Nat) : Int) = ((d.now + 1 - 2 * t.toNat : Nat) : Int) := by omega
          simp only [e66]
          refine qC U J (CR.mono (deTurned_cr H hP3) ?_)
          rintro v ⟨hh5, cc5⟩ ⟨hv, hK3⟩
          refine qA U J (nK (rR (f_1 U J (.inl J) J ?_)))
          have hK := ((hK2.weak (W' := r :: b :: own a) (by simp)).up (c3 := cc4 + 2 + 12) (by omega)).call hK3 (fun x hx => .inr (by simp at hx; simp [hx])) |>.up (c3 := cc5) (Nat.le_refl _)
          have hR7 := hR6.move (hK3.2 r (by omega) (by simpa using hne))
          cases t
          · skip
            simp only [Bool.toNat_false, Nat.mul_zero, Nat.sub_zero] at hv
            by_cases q : d.now + 1 ≤ 20
            · rw [if_pos (by omega)] at hv; obtain ⟨rfl, hP4⟩ := hv
              have hu : d.step (all.drop at_) = .ok ({ d with now := d.now + 1 }, 2) := by rw [hd1, hd2]; simp only [De.step]; rw [if_neg (by omega), if_neg (by omega)]
              rw [hu]; exact ⟨⟨rfl, hR7, a, hP4, fun z hz => .inl hz⟩, hK⟩
            · rw [if_neg (by omega)] at hv; subst hv
              have hu : d.step (all.drop at_) = .error 22 := by rw [hd1, hd2]; simp only [De.step]; rw [if_neg (by omega), if_pos (by omega)]
              rw [hu]; exact ⟨⟨rfl, fun q => absurd q (by decide), _, by omega, hR7⟩, hK⟩
          · skip
            simp only [Bool.toNat_true, Nat.mul_one, show d.now + 1 - 2 = d.now - 1 by omega] at hv
            by_cases q : d.now = 1
            · rw [if_neg (by omega)] at hv; subst hv
              have hu : d.step (all.drop at_) = .error 22 := by rw [hd1, hd2]; simp only [De.step]; rw [if_neg (by omega), if_pos (by omega)]
              rw [hu]; exact ⟨⟨rfl, fun q => absurd q (by decide), _, by omega, hR7⟩, hK⟩
            · rw [if_pos (by omega)] at hv; obtain ⟨rfl, hP4⟩ := hv
              have hu : d.step (all.drop at_) = .ok ({ d with now := d.now - 1 }, 2) := by rw [hd1, hd2]; simp only [De.step]; rw [if_neg (by omega), if_neg (by omega)]
              rw [hu]; exact ⟨⟨rfl, hR7, a, hP4, fun z hz => .inl hz⟩, hK⟩
theorem deStep_cr {h : Heap} {c b r dr at_ : Nat} {all : List Bool} {d : De} {a : Option Addr} (hP : DeR d b a h.get) (hR : BitR all dr at_ (h.get r)) (hc : b < c ∧ r < c ∧ ∀ z ∈ own a, z < c) (hd : d.done = false) :
    CR Tryz.prog ov 262 [ptr b, ptr r] ⟨h, c⟩ (fun v st => (match d.step (all.drop at_) with
      | .ok (d', n) => v = nv 0 ∧ BitR all dr (at_ + n) (st.heap.get r) ∧ ∃ a', DeR d' b a' st.heap.get ∧ ∀ z ∈ own a', z ∈ own a ∨ c ≤ z ∧ z < st.ctr
      | .error e => v = nv e ∧ (e = 3 → BitR all dr at_ (st.heap.get r) ∧ DeR d b a st.heap.get) ∧ ∃ k, at_ ≤ k ∧ BitR all dr k (st.heap.get r)) ∧ Keep (r :: b :: own a) h c st) := by
  obtain ⟨hb1, hr1, ha1⟩ := id hc
  obtain ⟨hg, cp, hb, hS⟩ := id hP
  have hne : r ≠ b := hR.ne hb (by dsimp only; decide)
  have hno := hR.own hS (by decide)
  have hat : 8 * dr ≤ at_ ∧ at_ ≤ all.length := by obtain ⟨s, _, _, _, h3, h4, _⟩ := hR; exact ⟨h3, h4⟩
  have hH := fun c' (q : c ≤ c') => deStep0_cr H (c := c') hP hR ⟨by omega, by omega, fun z hz => by have := ha1 z hz; omega⟩ hd
  cases hs : d.step (all.drop at_) with
  | ok x =>
    obtain ⟨d', n⟩ := x
    simp only [hs] at hH
    refine e_2 Tryz.func262 rfl (H _ (by decide)) Tryz.ntmps262 (by decide) ?_
    intro env U
    refine sg 1 J (qA U J (nK (rS (rB (sg 11 J (qM U J (qB U J J (nq211 _) (qM U J (qG U J J J J (qM U J (qG U J J J J (qB U J J (nq36 _) (qQ U J J J (J) (qM U J (qG U J J J J (qM U J (qG U J J J J (qC U J (CR.mono (deDone_cr H hP) ?_)))))))))))))))))))
    rintro v ⟨hh1, cc1⟩ ⟨rfl, rfl, hk⟩
    try dsimp only at hk
    refine qQ U J J J (J) (qA U J (nK (rF U rfl (by simp [hd]) ?_)))
    refine sg 5 J (qM U J (qN U J (qF U J fa328_3 (qL U J aA ((p4.1 _ _).trans J) ?_))))
    refine qA U J (nK (rF U J dA ?_))
    refine rK (kO (kN (sg 3 J (qM U J (qC U J (CR.mono (at_cr H hR) ?_))))))
    rintro v ⟨hh2, cc2⟩ ⟨rfl, rfl, hk⟩
    try dsimp only at hk
    refine qA U J (nK (sg 4 J (qM U J (qM U J (qC U J (CR.mono (hH _ oA) ?_))))))
    rintro v ⟨hh3, cc3⟩ ⟨⟨rfl, hR2, a', hP2, hO2⟩, hK⟩
    refine qA U J (nK (rS (sg 2 J (qM U J (qB U J J J (nK (rF U J dA ?_)))))))
    refine rK (kN (sg 2 J (qM U J (qA U J (nK (rR (f_1 U J (.inl J) J ?_)))))))
    exact ⟨⟨rfl, hR2, a', hP2, fun z hz => (hO2 z hz).imp id (fun q => by dsimp only at *; omega)⟩, (hK.base (by omega)).up (by omega)⟩
  | error e =>
    simp only [hs] at hH
    refine e_2 Tryz.func262 rfl (H _ (by decide)) Tryz.ntmps262 (by decide) ?_
    intro env U
    refine sg 1 J (qA U J (nK (rS (rB (sg 11 J (qM U J (qB U J J (nq211 _) (qM U J (qG U J J J J (qM U J (qG U J J J J (qB U J J (nq36 _) (qQ U J J J (J) (qM U J (qG U J J J J (qM U J (qG U J J J J (qC U J (CR.mono (deDone_cr H hP) ?_)))))))))))))))))))
    rintro v ⟨hh1, cc1⟩ ⟨rfl, rfl, hk⟩
    try dsimp only at hk
    refine qQ U J J J (J) (qA U J (nK (rF U rfl (by simp [hd]) ?_)))
    refine sg 5 J (qM U J (qN U J (qF U J fa328_3 (qL U J aA ((p4.1 _ _).trans J) ?_))))
    refine qA U J (nK (rF U J dA ?_))
    refine rK (kO (kN (sg 3 J (qM U J (qC U J (CR.mono (at_cr H hR) ?_))))))
    rintro v ⟨hh2, cc2⟩ ⟨rfl, rfl, hk⟩
    try dsimp only at hk
    refine qA U J (nK (sg 4 J (qM U J (qM U J (qC U J (CR.mono (hH _ oA) ?_))))))
    rintro v ⟨hh3, cc3⟩ ⟨⟨rfl, hsh, k, hk3, hR2⟩, hK⟩
    refine qA U J (nK (rS (sg 2 J (qM U J (qB U J J J (nK ?_))))))
    refine rC U rfl (fun he => ?_) (fun he => ?_)
    · try simp only [dz, dy] at he
      have he3 : e = 3 := by omega
      have hP3 := hsh he3
      have hcc := hK.1
      dsimp only at hcc
      refine rg 3 J (qM U J (qM U J (qC U J (CR.mono (seek_cr H hR2 hat.1 hat.2) ?_))))
      rintro v ⟨hh4, cc4⟩ ⟨rfl, hR4, hK4⟩
      refine nK (sg 2 J (qM U J (qA U J (nK (rR (f_1 U J (.inl J) J ?_))))))
      exact ⟨⟨rfl, fun _ => ⟨hR4, hP3.move (fun z hz => hK4.2 z (by rcases hz with rfl | hz; omega; have := ha1 z hz; omega) (by simp; rintro rfl; rcases hz with hz | hz; exact hne hz; exact hno hz))⟩, _, Nat.le_refl _, hR4⟩, (((hK.base (by omega)).up (by omega)).call hK4 (fun x hx => .inr (by simp at hx; simp [hx]))).up (by omega)⟩
    · try simp only [dz, dy] at he
      refine rK (kN (sg 2 J (qM U J (qA U J (nK (rR (f_1 U J (.inl J) J ?_)))))))
      exact ⟨⟨rfl, fun q => absurd q (by omega), k, hk3, hR2⟩, (hK.base (by omega)).up (by omega)⟩
end
theorem shlI {P : Program} {t : TypeId} {a : Int} (j : Nat) (k2 : IntKind) (hj : j < 60) (h : 0 ≤ a * 2 ^ j ∧ a * 2 ^ j < 9223372036854775808) : evBin P .shl t (.int .i64 a) (.int k2 (j : Int)) = some (.int .i64 (a * 2 ^ j)) := by
  have h1 : ¬ (j : Int) < 0 := by omega
  have h2 : min (j : Int).toNat IntKind.i64.bits = j := by simp [IntKind.bits]; omega
  simp only [evBin, if_neg h1, h2]
  rw [wrapI (by omega) (by omega)]
theorem shl1N {P : Program} {t : TypeId} (j pw : Nat) (k2 : IntKind) (hj : j < 60) (hp : pw = 2 ^ j) : evBin P .shl t (.int .i64 1) (.int k2 (j : Int)) = some (nv pw) := by
  have h1 : 2 ^ j ≤ 2 ^ 59 := Nat.pow_le_pow_right (by omega) (by omega)
  have h2 : ((1 : Int) * 2 ^ j) = ((pw : Nat) : Int) := by subst hp; simp
  rw [shlI j k2 hj (by rw [h2]; omega), h2]
theorem share_snoc (a : List Nat) (x : Nat) : share (a ++ [x]) = share a + 2 ^ (20 - x) := by simp [share]
theorem share_le (a : List Nat) : share a ≤ a.length * 2 ^ 20 := by
  induction a with
  | nil => simp [share]
  | cons x a ih =>
    have : 2 ^ (20 - x) ≤ 2 ^ 20 := Nat.pow_le_pow_right (by omega) (by omega)
    simp only [share, List.map_cons, List.sum_cons, List.length_cons] at *; omega
section
variable {ov : OvT} (H : OvH ov)
include H
theorem indexFunc_cr {h : Heap} {c n cp g : Nat} {l : List Nat} {a : Option Addr} {cap : List Value} {p : Nat → Bool} (hS : SlR 3 1 (l.map nv) a n cp h.get) (hn9 : n ≤ 1000000) (hp : ∀ x ∈ l, ∀ c', c ≤ c' → CR Tryz.prog ov g (nv x :: cap) ⟨h, c'⟩ (fun v st => v = .bool (p x) ∧ Same h c' st)) :
    CR Tryz.prog ov 287 [.slice a n cp, .func (.func g) #[] cap.toArray] ⟨h, c⟩ (fun v st => ∃ i : Int, v = iv i ∧ decide (i ≥ 0) = l.any p ∧ Same h c st) := by
  have hn : l.length = n := by have := hS.len; simpa using this
  refine e_2 Tryz.func287 rfl (H _ (by decide)) Tryz.ntmps287 (by decide) ?_
  intro env U
  refine sg 1 J (qA U J (nK (rS (sg 3 J (qM U J (q_lenL U J Tryz.underlying171 (qM U J (nK (rB ?_)))))))))
  refine rL (fun m env' s' => ∃ j, m = n - j ∧ j ≤ n ∧ (l.take j).any p = false ∧ Hd 19 [(0, .slice a n cp), (1, .func (.func g) #[] cap.toArray), (7, iv n), (8, iv j)] env' ∧ s'.heap = h ∧ c ≤ s'.ctr) n ?_ ?_
  · exact ⟨0, rfl, Nat.zero_le _, rfl, Ho U ⟨rfl, rfl, rfl, rfl, trivial⟩, rfl, by dsimp only; omega⟩
  rintro m _ ⟨h2, c2⟩ ⟨j, rfl, hj, hany, ⟨env, U, rfl⟩, he, hc2⟩
  dsimp only at he hc2
  subst he
  refine sg 1 J (qB U J J J (nK (rS ?_)))
  refine rC U rfl (fun hjn => ?_) (fun hjn => ?_)
  · try simp only [dz, dy] at hjn
    obtain ⟨x, hx⟩ : ∃ x, l[j]? = some x := ⟨_, List.getElem?_eq_getElem (by omega)⟩
    obtain ⟨mb, rfl, rfl, hmb⟩ := hS.pos (by omega)
    have htk : (l.take (j + 1)).any p = p x := by rw [List.take_add_one, hx, List.any_append, hany]; simp
    refine rK (kN (rS (rB (sg 2 J (qM U J (qA U J (nK (sg 6 J (qM U J (qM U J (qM U J (qI U rfl rfl e171 ⟨by omega, by omega⟩ ?_))))))))))))
    refine qL U rfl aA ((p3.1 _ _).trans (by simp [hx])) (v := nv x) ?_
    refine q_callV U J J (CR.mono ((by simpa using hp x (List.mem_of_getElem? hx) _ oA)) ?_)
    rintro v ⟨hh1, cc1⟩ ⟨rfl, rfl, hk⟩
    try dsimp only at hk
    refine nK ?_
    refine rC U rfl (fun hpx => ?_) (fun hpx => ?_)
    · try simp only [dz, dy] at hpx
      refine sg 2 J (qM U J (qA U J (nK (rR (k_bloR (kR (kR (k_bloR (kR (f_1 U J (.inl J) J ?_))))))))))
      refine ⟨_, rfl, ?_, rfl, by dsimp only at *; omega⟩
      rw [← List.take_append_drop (j + 1) l, List.any_append, htk, hpx]; simp
    · try simp only [dz, dy] at hpx
      refine rK (kO (kN (rg 2 J (qP U J J wA ?_))))
      refine qM U J (nK ?_)
      exact ⟨n - (j + 1), by omega, j + 1, rfl, by omega, by rw [htk]; simpa using hpx, Ho U ⟨rfl, rfl, rfl, rfl, trivial⟩, rfl, by dsimp only at *; omega⟩
  · try simp only [dz, dy] at hjn
    refine r_exit (kE (kE (kB (kN (sg 1 J (qA U J (nK (rR (f_1 U J (.inl J) J ?_)))))))))
    have e : j = n := by omega
    subst e
    rw [List.take_of_length_le (by omega)] at hany
    exact ⟨_, rfl, by rw [hany]; rfl, rfl, by dsimp only; omega⟩
theorem containsFunc_cr {h : Heap} {c n cp g : Nat} {l : List Nat} {a : Option Addr} {cap : List Value} {p : Nat → Bool} (hS : SlR 3 1 (l.map nv) a n cp h.get) (hn9 : n ≤ 1000000) (hp : ∀ x ∈ l, ∀ c', c ≤ c' → CR Tryz.prog ov g (nv x :: cap) ⟨h, c'⟩ (fun v st => v = .bool (p x) ∧ Same h c' st)) :
    CR Tryz.prog ov 285 [.slice a n cp, .func (.func g) #[] cap.toArray] ⟨h, c⟩ (fun v st => v = .bool (l.any p) ∧ Same h c st) := by
  refine e_2 Tryz.func285 rfl (H _ (by decide)) Tryz.ntmps285 (by decide) ?_
  intro env U
  refine sg 1 J (qA U J (nK (sg 5 J (qM U J (qM U J (qC U J (CR.mono (indexFunc_cr H hS hn9 (fun x hx c' hc' => hp x hx c' oA)) ?_)))))))
  rintro v ⟨hh1, cc1⟩ ⟨i, rfl, hi, rfl, hk⟩
  try dsimp only at hk
  refine qB U J J J (qA U J (nK (rR (f_1 U J (.inl J) J ?_))))
  exact ⟨by rw [← hi], rfl, by dsimp only at *; omega⟩
theorem betweenF_cr {h : Heap} {c lo hi x b1 b2 : Nat} {B1 B2 : Blk} (h1 : h.get b1 = some B1) (h2 : h.get b2 = some B2) (e1 : B1.cells = [nv lo]) (e2 : B2.cells = [nv hi]) :
    CR Tryz.prog ov 286 [nv x, ptr b1, ptr b2] ⟨h, c⟩ (fun v st => v = .bool (x < lo || hi < x) ∧ Same h c st) := by
  refine e_3 Tryz.func286 rfl (H _ (by decide)) Tryz.ntmps286 (by decide) ?_
  intro env U
  refine sg 1 J (qA U J (nK (sg 9 J (qM U J (qL U rfl aA ((p3.1 _ _).trans (by rw [e1]; rfl)) ?_)))))
  refine qB U J J J (qM U J ?_)
  refine q_case U (rfl : lk _ _ 8 = _) (fun hg => ?_) (fun hg => ?_)
  · have hg_ := hg
    try simp only [dz] at hg_
    refine qS U rfl rfl rfl rfl (by rw [hg]; decide) ?_
    refine qS U rfl rfl rfl rfl (by rw [hg]; decide) ?_
    refine qS U rfl rfl rfl rfl (by rw [hg]; decide) ?_
    refine qQ U J J J (if_pos hg) (qA U J (nK (rR (f_1 U J (.inl J) J ?_))))
    refine ⟨?_, rfl, by simp <;> omega⟩
    have q : x < lo := by omega
    simp [q]
  · have hg_ := hg
    try simp only [dz] at hg_
    refine qG U J J J hg (qM U J (qG U J J J hg (qL U rfl aA ((p3.1 _ _).trans (by rw [e2]; rfl)) ?_)))
    refine qG U J J J hg (qB U J J J (qQ U rfl rfl rfl (if_neg (by rw [hg]; decide)) ?_))
    refine qA U J (nK (rR (f_1 U J (.inl J) J ?_)))
    refine ⟨?_, rfl, by simp <;> omega⟩
    have q : ¬ x < lo := by omega
    simp [q]
theorem between_cr {h : Heap} {c n cp lo hi : Nat} {l : List Nat} {a : Option Addr} (hS : SlR 3 1 (l.map nv) a n cp h.get) (hn9 : n ≤ 1000000) (hc : ∀ z ∈ own a, z < c) :
    CR Tryz.prog ov 283 [.slice a n cp, nv lo, nv hi] ⟨h, c⟩ (fun v st => v = .bool (!l.any fun x => x < lo || hi < x) ∧ Keep [] h c st) := by
  refine e_3 Tryz.func283 rfl (H _ (by decide)) Tryz.ntmps283 (by decide) ?_
  intro env U
  refine sg 3 J (q_box U J (q_box U J (qA U J (nK (sg 5 J (qM U J (q_makeFunc U J J (qC U J (CR.mono (containsFunc_cr H (cap := [ptr (c + 0), ptr (c + (0 + 1))]) (hS.move (fun z hz => by have := hc z hz; simp only [T.get_set]; rw [if_neg oA, if_neg oA])) hn9 (fun x hx c' hc' => betweenF_cr H (lo := lo) (hi := hi) ((T.get_set _ _ _ _).trans ((if_neg oA).trans ((T.get_set _ _ _ _).trans (if_pos rfl)))) ((T.get_set _ _ _ _).trans (if_pos rfl)) rfl rfl)) ?_)))))))))
  rintro v ⟨hh1, cc1⟩ ⟨rfl, rfl, hk⟩
  try dsimp only at hk
  refine q_un U J J (qA U J (nK (rR (f_1 U J (.inl J) J ?_))))
  exact ⟨rfl, (((Keep.refl (Nat.le_refl c)).set (.inl (by omega))).set (.inl (by omega))).up (by omega)⟩
theorem share_cr {h : Heap} {c n cp : Nat} {l : List Nat} {a : Option Addr} (hS : SlR 3 1 (l.map nv) a n cp h.get) (hc : ∀ z ∈ own a, z < c) (hn : n ≤ 258) (hx20 : ∀ x ∈ l, x ≤ 20) :
    CR Tryz.prog ov 280 [.slice a n cp] ⟨h, c⟩ (fun v st => v = .tuple #[nv (share l), nv 0] ∧ Keep [] h c st) := by
  have hln : l.length = n := by have := hS.len; simpa using this
  have hany : (l.any fun x => decide (x < 0) || decide (20 < x)) = false := by simp; intro x hx; exact hx20 x hx
  have hgd : decide ((n : Int) > 258) = false := by simp; omega
  refine e_1 Tryz.func280 rfl (H _ (by decide)) Tryz.ntmps280 (by decide) ?_
  intro env U
  refine sg 2 J (qA U J (qA U J (nK (rS (sg 8 J (qM U J (q_lenL U J Tryz.underlying171 (qB U J J J (qM U J (qG U J J J hgd (qM U J (qG U J J J hgd (qC U J (CR.mono (between_cr H (lo := 0) (hi := 20) hS oA (fun z hz => by have := hc z hz; omega)) ?_))))))))))))))
  rintro v ⟨hh1, cc1⟩ ⟨rfl, hK⟩
  refine qG U J J J hgd ?_
  rw [hany]
  refine q_un U J J (qQ U rfl rfl rfl (if_neg (by rw [hgd]; decide)) ?_)
  refine nK (rF U J dA ?_)
  refine rK (kN (sg 1 J ?_))
  have hcc1 : c + 2 + 8 ≤ cc1 := by have := hK.1; dsimp only at this; omega
  have hS1 := hS.move (g' := hh1.get) (fun z hz => hK.2 z (by have := hc z hz; omega) (by simp))
  refine qA U J (nK (rS (sg 3 J (qM U J (q_lenL U J Tryz.underlying171 (qM U J (nK (rB ?_))))))))
  refine rL (fun m env' s' => ∃ j, m = n - j ∧ j ≤ n ∧ Hd 28 [(0, .slice a n cp), (15, .slice a n cp), (16, iv n), (17, iv j), (4, nv (share (l.take j)))] env' ∧ s'.heap = hh1 ∧ cc1 ≤ s'.ctr) n ?_ ?_
  · exact ⟨0, rfl, Nat.zero_le _, Ho U ⟨rfl, rfl, rfl, rfl, rfl, trivial⟩, rfl, by dsimp only; omega⟩
  rintro m _ ⟨h2, c2⟩ ⟨j, rfl, hj, ⟨env, U, rfl⟩, he, hc2⟩
  dsimp only at he hc2
  subst he
  refine sg 1 J (qB U J J J (nK (rS ?_)))
  refine rC U rfl (fun hjn => ?_) (fun hjn => ?_)
  · try simp only [dz, dy] at hjn
    obtain ⟨x, hx⟩ : ∃ x, l[j]? = some x := ⟨_, List.getElem?_eq_getElem (by omega)⟩
    obtain ⟨mb, rfl, rfl, hmb⟩ := hS1.pos (by omega)
    have hx2 := hx20 x (List.mem_of_getElem? hx)
    have htk : share (l.take (j + 1)) = share (l.take j) + 2 ^ (20 - x) := by rw [List.take_add_one, hx]; exact share_snoc _ _
    have hle := share_le (l.take (j + 1)); rw [List.length_take] at hle
    have hle2 : share (l.take (j + 1)) ≤ 258 * 2 ^ 20 := Nat.le_trans hle (Nat.mul_le_mul_right _ (by omega))
    have hp2 : 2 ^ (20 - x) ≤ 2 ^ 20 := Nat.pow_le_pow_right (by omega) (by omega)
    have e20 : (20 : Int) - (x : Int) = ((20 - x : Nat) : Int) := by omega
    obtain ⟨pw, hpw⟩ : ∃ pw, pw = 2 ^ (20 - x) := ⟨_, rfl⟩
    rw [← hpw] at htk hp2
    refine rK (kN (rS (rB (sg 3 J (qI U rfl rfl e171 ⟨by omega, by omega⟩ ?_)))))
    refine qL U rfl aA ((p3.1 _ _).trans (by simp [hx])) (v := nv x) ?_
    refine qA U J (nK (rg 6 J (qM U J (qM U J (q_sub U J J wA ?_)))))
    refine qB U rfl rfl (by rw [e20]; exact shl1N (20 - x) pw .i64 oA hpw) ?_
    refine qP U J J wA ?_
    refine qA U J (rN (kO (kN (rg 2 J (qP U J J wA ?_)))))
    refine qM U J (nK ?_)
    exact ⟨n - (j + 1), by omega, j + 1, rfl, by omega, Ho U ⟨rfl, rfl, rfl, rfl, by rw [htk]; simp [lk, Nat.beq, Nat.blt, Nat.ble], trivial⟩, rfl, by dsimp only at *; omega⟩
  · try simp only [dz, dy] at hjn
    refine r_exit (kE (kE (kB (kN (sg 3 J (qM U J (qA U J (qA U J (nK (rR (f_2 U J (.inl J) J J ?_)))))))))))
    have e : j = n := by omega
    subst e
    rw [List.take_of_length_le (by omega)]
    exact ⟨rfl, (hK.base (by omega)).up (by omega)⟩
theorem index0_cr {h : Heap} {c n cp : Nat} {l : List Nat} {a : Option Addr} (hS : SlR 3 1 (l.map nv) a n cp h.get) (hn9 : n ≤ 1000000) (h1 : ∀ x ∈ l, 1 ≤ x) :
    CR Tryz.prog ov 284 [.slice a n cp, nv 0] ⟨h, c⟩ (fun v st => v = iv (-1) ∧ Same h c st) := by
  have hn : l.length = n := by have := hS.len; simpa using this
  refine e_2 Tryz.func284 rfl (H _ (by decide)) Tryz.ntmps284 (by decide) ?_
  intro env U
  refine sg 1 J (qA U J (nK (rS (sg 3 J (qM U J (q_lenL U J Tryz.underlying171 (qM U J (nK (rB ?_)))))))))
  refine rL (fun m env' s' => ∃ j, m = n - j ∧ j ≤ n ∧ Hd 19 [(0, .slice a n cp), (1, nv 0), (7, iv n), (8, iv j)] env' ∧ s'.heap = h ∧ c ≤ s'.ctr) n ?_ ?_
  · exact ⟨0, rfl, Nat.zero_le _, Ho U ⟨rfl, rfl, rfl, rfl, trivial⟩, rfl, by dsimp only; omega⟩
  rintro m _ ⟨h2, c2⟩ ⟨j, rfl, hj, ⟨env, U, rfl⟩, he, hc2⟩
  dsimp only at he hc2
  subst he
  refine sg 1 J (qB U J J J (nK (rS ?_)))
  refine rC U rfl (fun hjn => ?_) (fun hjn => ?_)
  · try simp only [dz, dy] at hjn
    obtain ⟨x, hx⟩ : ∃ x, l[j]? = some x := ⟨_, List.getElem?_eq_getElem (by omega)⟩
    have hx1 := h1 x (List.mem_of_getElem? hx)
    obtain ⟨mb, rfl, rfl, hmb⟩ := hS.pos (by omega)
    refine rK (kN (rS (rB (sg 2 J (qM U J (qA U J (nK (sg 6 J (qM U J (qM U J (qM U J (qI U rfl rfl e171 ⟨by omega, by omega⟩ ?_))))))))))))
    refine qL U rfl aA ((p3.1 _ _).trans (by simp [hx])) (v := nv x) ?_
    refine qB U J J J (nK (rF U rfl (by simp; omega) ?_))
    refine rK (kO (kN (rg 2 J (qP U J J wA ?_))))
    refine qM U J (nK ?_)
    exact ⟨n - (j + 1), by omega, j + 1, rfl, by omega, Ho U ⟨rfl, rfl, rfl, rfl, trivial⟩, rfl, by dsimp only at *; omega⟩
  · try simp only [dz, dy] at hjn
    refine r_exit (kE (kE (kB (kN (sg 1 J (qA U J (nK (rR (f_1 U J (.inl J) J ?_)))))))))
    exact ⟨rfl, rfl, by dsimp only; omega⟩
theorem contains0_cr {h : Heap} {c n cp : Nat} {l : List Nat} {a : Option Addr} (hS : SlR 3 1 (l.map nv) a n cp h.get) (hn9 : n ≤ 1000000) (h1 : ∀ x ∈ l, 1 ≤ x) :
    CR Tryz.prog ov 281 [.slice a n cp, nv 0] ⟨h, c⟩ (fun v st => v = .bool false ∧ Same h c st) := by
  refine e_2 Tryz.func281 rfl (H _ (by decide)) Tryz.ntmps281 (by decide) ?_
  intro env U
  refine sg 1 J (qA U J (nK (sg 5 J (qM U J (qM U J (qC U J (CR.mono (index0_cr H hS hn9 h1) ?_)))))))
  rintro v ⟨hh1, cc1⟩ ⟨rfl, rfl, hk⟩
  try dsimp only at hk
  refine qB U J J J (qA U J (nK (rR (f_1 U J (.inl J) J ?_))))
  exact ⟨rfl, rfl, by dsimp only at *; omega⟩
theorem whole_cr {h : Heap} {c n cp : Nat} {l : List Nat} {a : Option Addr} (hS : SlR 3 1 (l.map nv) a n cp h.get) (hc : ∀ z ∈ own a, z < c) (hn : n ≤ 258) (hx20 : ∀ x ∈ l, 1 ≤ x ∧ x ≤ 20) :
    CR Tryz.prog ov 275 [.slice a n cp] ⟨h, c⟩ (fun v st => v = .bool (whole l) ∧ Keep [] h c st) := by
  refine e_1 Tryz.func275 rfl (H _ (by decide)) Tryz.ntmps275 (by decide) ?_
  intro env U
  refine sg 1 J (qA U J (nK (sg 7 J (qM U J (qC U J (CR.mono (share_cr H hS (fun z hz => by have := hc z hz; omega) hn (fun x hx => (hx20 x hx).2)) ?_))))))
  rintro v ⟨hh1, cc1⟩ ⟨rfl, hK⟩
  have hcc1 := hK.1
  refine qM U J (qE U J J (qE U J J (qA U J (qA U J (nK (sg 12 J (qM U J (qB U J J J (qM U J (qG U J J J J (qM U J (qG U J J J J (qB U J J J (qQ U J J J (if_pos J) (qM U J ?_)))))))))))))))
  refine q_case U (rfl : lk _ _ 16 = _) (fun hg => ?_) (fun hg => ?_)
  · have hg_ := hg
    try simp only [dz] at hg_
    refine qG U J J J hg (qM U J (qG U J J J hg (qC U J (CR.mono (contains0_cr H (hS.move (g' := hh1.get) (fun z hz => hK.2 z (by have := hc z hz; omega) (by simp))) oA (fun x hx => (hx20 x hx).1)) ?_))))
    rintro v ⟨hh2, cc2⟩ ⟨rfl, rfl, hk⟩
    try dsimp only at hk
    refine qG U J J J hg (q_un U J J (qQ U J J J (if_pos hg) (qA U J (nK (rR (f_1 U J (.inl J) J ?_))))))
    refine ⟨?_, ((hK.base oA).up (by dsimp only at *; omega))⟩
    have q : whole l = true := by simp only [whole, beq_iff_eq] at hg ⊢; omega
    rw [q]; rfl
  · have hg_ := hg
    try simp only [dz] at hg_
    refine qS U rfl rfl rfl rfl (by rw [hg]; decide) ?_
    refine q_skipW U rfl rfl rfl rfl (by rw [hg]; decide) ?_
    refine qS U rfl rfl rfl rfl (by rw [hg]; decide) ?_
    refine qQ U rfl rfl rfl (if_neg (by rw [hg]; decide)) ?_
    refine qA U J (nK (rR (f_1 U J (.inl J) J ?_)))
    refine ⟨?_, ((hK.base oA).up (by dsimp only at *; omega))⟩
    have q : whole l = false := by simp only [whole, beq_eq_false_iff_ne] at hg ⊢; omega
    rw [q]
end
abbrev nilS : Value := .slice none 0 0
theorem z333 : Tryz.t333.zero = some (.agg ([nilS, nilS, nilS] ++ (List.replicate 43 0).map nv).toArray) := by kernel_rfl
theorem z333p : plain (.agg ([nilS, nilS, nilS] ++ (List.replicate 43 0).map nv).toArray) = true := by kernel_rfl
theorem zeros_rep (u : Value) (m : Nat) : zerosOf [u] m = List.replicate m u := by
  induction m with
  | zero => rfl
  | succ m ih => simp [zerosOf, ih, List.replicate_succ]
section
variable {P : Program} {ov : OvT} {ops : Array Oper} {c0 d n : Nat} {ty : TypeId} {pos : String} {after : Array Edge} {l : List Oper} {i : Nat} {env : Env} {w : List (Nat × Value)} {h : Heap} {c : Nat} {sn : List (Nat × Heap)} {md : Heap} {Q : RS → Prop}
theorem q_makeSlice {t e m by_ : Nat} {k1 k2 : IntKind} {x y : Operand} {inf : TypeInfo} {z u : Value} (U : env.length = n) (hx : lkO n w x = some (.int k1 m)) (hy : lkO n w y = some (.int k2 m)) (h1 : P.underlying t = some (.slice e)) (h2 : P.info? e = some inf) (h3 : inf.zero = some z) (h4 : z.cells.toList = [u]) (h5 : inf.size = 1) (h6 : inf.bytes = by_) (h7 : plain z = true) (hb : m * by_ ≤ 281474976710656) (hm : m ≤ 9223372036854775807)
    (k : RO P ov ops c0 l (i + 1) ⟨E env ((d, .slice (some ⟨c0 + i, 0, none⟩) m 1) :: w), ⟨h.set (c0 + i) ⟨List.replicate m u, e, 1⟩, c⟩, sn, md.set (c0 + i) ⟨List.replicate m u, e, 1⟩⟩ Q) :
    RO P ov ops c0 (⟨some d, .makeSlice t x y, ty, pos, after, none⟩ :: l) i ⟨E env w, ⟨h, c⟩, sn, md⟩ Q := by
  refine q_new rfl ?_ k
  have hz : z.cells.size = 1 := by have := congrArg List.length h4; simpa using this
  have e1 : (m : Int) * by_ ≤ 281474976710656 := by rw [← Int.natCast_mul]; omega
  simp only [evLocal, evE U hx, evE U hy, h1, h2, h3]
  rw [if_pos ⟨h7, by omega, by omega, by rw [h6]; exact e1, by omega, by rw [hz, h5], by rw [h5]; decide⟩, h4, zeros_rep, h5]; rfl
end
theorem firstC_le (l : List Nat) (n : Nat) : firstC l n + 2 * l.length ≤ 2 * l.length * 2 ^ n := by
  induction n with
  | zero => simp [firstC]
  | succ n ih =>
    have h1 : (those l n).length ≤ l.length := by have := idx_le (l.map (· == n)) 0; simpa [those] using this
    rw [firstC, Nat.pow_succ, ← Nat.mul_assoc]; omega
def ordU (l : List Nat) (n : Nat) : List Nat := (List.range n).flatMap (those l)
theorem ordU_succ (l : List Nat) (n : Nat) : ordU l (n + 1) = ordU l n ++ those l n := by simp [ordU, List.range_succ]
theorem ordU_len (l : List Nat) (n : Nat) : (ordU l n).length = fromC l n := by
  induction n with
  | zero => rfl
  | succ n ih => rw [ordU_succ, List.length_append, ih]; rfl
theorem ordC_eq (l : List Nat) : ordC l = ordU l 21 := rfl
theorem those_take {l : List Nat} {j x n : Nat} (h : l[j]? = some x) : idx ((l.map (· == n)).take (j + 1)) 0 = if x = n then idx ((l.map (· == n)).take j) 0 ++ [j] else idx ((l.map (· == n)).take j) 0 := by
  have hj : j < l.length := by rcases Nat.lt_or_ge j l.length with q | q; exact q; rw [List.getElem?_eq_none q] at h; cases h
  rw [List.take_add_one, List.getElem?_map, h, idx_append]
  have e : ((l.map (· == n)).take j).length = j := by simp; omega
  rw [e]
  by_cases q : x = n
  · simp [q, idx]
  · have q1 : (x == n) = false := by simpa using q
    simp [q, q1, idx]
theorem fromC_le (l : List Nat) (n : Nat) : fromC l n ≤ l.length := by
  have h : ∀ n, fromC l n ≤ (l.filter (· < n)).length := by
    intro n
    induction n with
    | zero => simp [fromC]
    | succ n ih =>
      have e : ∀ (a : List Nat) (k : Nat), (idx (a.map (· == n)) k).length + (a.filter (· < n)).length = (a.filter (· < n + 1)).length := by
        intro a
        induction a with
        | nil => intro k; rfl
        | cons x a ih2 =>
          intro k
          simp only [List.map_cons, List.filter_cons]
          have := ih2 (k + 1)
          by_cases q : x = n
          · subst q; simp [idx]; omega
          · have q1 : (x == n) = false := by simpa using q
            rw [q1]; simp only [idx]
            by_cases q2 : x < n
            · rw [if_pos (by simpa using q2), if_pos (by simp; omega)]; simp; omega
            · rw [if_neg (by simpa using q2), if_neg (by simp; omega)]; exact this
      have := e l 0
      simp only [fromC, those]; omega
  exact Nat.le_trans (h n) (List.length_filter_le _ _)
def CdR (l : List Nat) (b : Nat) (o : Option Addr) (g : Nat → Option Blk) : Prop :=
  (∀ x ∈ l, 1 ≤ x ∧ x ≤ 20) ∧ l.length ≤ 258 ∧ ∃ (s1 s2 : Value) (F G : List Nat) (n cp : Nat), g b = some ⟨[s1, s2, .slice o n cp] ++ F.map nv ++ G.map nv, 333, 0⟩ ∧ F.length = 21 ∧ G.length = 22 ∧ (∀ m, 1 ≤ m → m ≤ 20 → F.getD m 0 = firstC l m) ∧ (∀ m, 1 ≤ m → m ≤ 21 → G.getD m 0 = fromC l m) ∧ SlR 3 1 ((ordC l).map nv) o n cp g
theorem CdR.move {l : List Nat} {b : Nat} {o : Option Addr} {g g' : Nat → Option Blk} (h : CdR l b o g) (hg : ∀ z, z = b ∨ z ∈ own o → g' z = g z) : CdR l b o g' := by
  obtain ⟨h1, h2, s1, s2, F, G, n, cp, h3, h4, h5, h6, h7, h8⟩ := h
  exact ⟨h1, h2, s1, s2, F, G, n, cp, (hg b (.inl rfl)).trans h3, h4, h5, h6, h7, h8.move (fun z hz => hg z (.inr hz))⟩
theorem arr_set3 {s1 s2 s3 : Value} {F G : List Nat} {i x : Nat} (hF : F.length = 21) (h : i < G.length) : ([s1, s2, s3] ++ F.map nv ++ G.map nv).set (24 + i) (nv x) = [s1, s2, s3] ++ F.map nv ++ (G.set i x).map nv := by
  have e : 24 + i = ([s1, s2, s3] ++ F.map nv).length + i := by simp [hF]
  have := arr_set (A := [s1, s2, s3] ++ F.map nv) (B := []) (o := G) (i := i) (x := x) h
  rw [List.append_nil, List.append_nil] at this
  rw [e]; exact this
theorem getD_set {F : List Nat} {n x m : Nat} (hn : n < F.length) : (F.set n x).getD m 0 = if n = m then x else F.getD m 0 := by
  simp only [List.getD_eq_getElem?_getD, List.getElem?_set]
  by_cases q : n = m
  · subst q; simp [hn]
  · simp [q]
section
variable {ov : OvT} (H : OvH ov)
include H
theorem cdNew_cr {h : Heap} {c n cp : Nat} {l : List Nat} {a : Option Addr} (hS : SlR 3 1 (l.map nv) a n cp h.get) (hc : ∀ z ∈ own a, z < c) (hn : 3 ≤ n ∧ n ≤ 258) (hx20 : ∀ x ∈ l, 1 ≤ x ∧ x ≤ 20) (hw : whole l = true) :
    CR Tryz.prog ov 264 [.slice a n cp] ⟨h, c⟩ (fun v st => ∃ b o, v = .tuple #[ptr b, nv 0] ∧ CdR l b o st.heap.get ∧ (∀ z ∈ b :: own o, c ≤ z ∧ z < st.ctr) ∧ Keep [] h c st) := by
  have hln : l.length = n := by have := hS.len; simpa using this
  have hg1 : decide ((n : Int) < 3) = false := by simp; omega
  have hg2 : decide ((n : Int) > 258) = false := by simp; omega
  have ht0 : those l 0 = [] := by
    have : ∀ (a : List Nat) (k : Nat), (∀ x ∈ a, 1 ≤ x) → idx (a.map (· == 0)) k = [] := by
      intro a
      induction a with
      | nil => intro k _; rfl
      | cons x a ih => intro k hx; have h1 := hx x (by simp); have : (x == 0) = false := by simp; omega
                       simp only [List.map_cons, this, idx]; exact ih _ (fun y hy => hx y (by simp [hy]))
    exact this l 0 (fun x hx => (hx20 x hx).1)
  refine e_1 Tryz.func264 rfl (H _ (by decide)) Tryz.ntmps264 (by decide) ?_
  intro env U
  refine sg 2 J (qA U J (qA U J (nK (rS (rB (sg 9 J (qM U J (q_lenL U J Tryz.underlying171 (qB U J J J (qM U J (qG U J J J hg1 (qM U J (qG U J J J hg1 (q_lenL U J Tryz.underlying171 (qG U J J J hg1 (qB U J J J (qQ U rfl rfl rfl (if_neg (by rw [hg1]; decide)) ?_)))))))))))))))))
  refine qA U J (nK (rF U J dA ?_))
  refine sg 4 J (qM U J (qC U J (CR.mono (whole_cr H hS (fun z hz => by have := hc z hz; omega) hn.2 hx20) ?_)))
  rintro v ⟨hh1, cc1⟩ ⟨rfl, hK⟩
  refine q_un U J J (qA U J (nK (rF U rfl (by simp [hw]) ?_)))
  refine rK (kO (kN (rS (rD [] (by decide +kernel) (by decide +kernel) (n := 8) rfl ?_))))
  have hcc1 : c + 2 + 9 + 4 ≤ cc1 := hK.1
  refine qM U J (qC U J (CR.mono (clone_cr H (hS.move (g' := hh1.get) (fun z hz => hK.2 z (by have := hc z hz; omega) (by simp))) (fun z hz => by have := hc z hz; omega) oA) ?_))
  rintro v ⟨hh2, cc2⟩ ⟨a2, cp2, rfl, hS2, hO2, hK2⟩
  refine qM U J (q_lenL U J Tryz.underlying171 (q_makeSlice U J J Tryz.underlying63 i38 z38 J s38 b38 J oA oA ?_))
  refine qU U rfl i333 z333 z333p (cs := ([.slice a2 n cp2, .slice (some ⟨cc1 + 4, 0, none⟩) n 1, nilS] ++ (List.replicate 21 0).map nv ++ (List.replicate 22 0).map nv).toArray) (by simp [Program.built, Instr.fill, Tryz.underlying333, Value.cells]; rfl) ?_
  refine q_box U J (qA U J (ro_nild (kN (sg 1 J (qA U J (nK (rS (sg 1 J (qA U J (nK (rB ?_)))))))))))
  refine rL (fun m env' s' => ∃ q, m = 20 - q ∧ q ≤ 20 ∧ ∃ (F G : List Nat) (oa : Option Addr) (ocp : Nat) (C : List Value), Hd 92 [(0, .slice a n cp), (4, ptr (cc1 + 6)), (5, nv (firstC l q + (those l q).length)), (6, nv (q + 1))] env' ∧ s'.heap.get (cc1 + 6) = some ⟨[.slice a2 n cp2, .slice (some ⟨cc1 + 4, 0, none⟩) n 1, .slice oa (fromC l (q + 1)) ocp] ++ F.map nv ++ G.map nv, 333, 0⟩ ∧ F.length = 21 ∧ G.length = 22 ∧ (∀ m, 1 ≤ m → m ≤ q → F.getD m 0 = firstC l m) ∧ (∀ m, 1 ≤ m → m ≤ q → G.getD m 0 = fromC l m) ∧ s'.heap.get (cc1 + 4) = some ⟨C, 38, 1⟩ ∧ C.length = n ∧ SlR 3 1 ((ordU l (q + 1)).map nv) oa (fromC l (q + 1)) ocp s'.heap.get ∧ (∀ z ∈ own oa, cc1 + 8 ≤ z ∧ z < s'.ctr) ∧ cc1 + 8 ≤ s'.ctr ∧ Keep [] h c s') 20 ?_ ?_
  · refine ⟨0, rfl, by omega, List.replicate 21 0, List.replicate 22 0, none, 0, List.replicate n (.int .u32 0), Ho U ⟨rfl, rfl, by rw [ht0]; rfl, rfl, trivial⟩, ?_, rfl, rfl, fun m h1 h2 => by omega, fun m h1 h2 => by omega, ?_, by simp, ?_, by simp [own], by dsimp only; have := hK2.1; dsimp only at this; omega, ?_⟩
    · dsimp only; rw [T.get_set, if_pos rfl]; simp only [fromC, ht0]; rfl
    · dsimp only; rw [T.get_set, if_neg (by omega), T.get_set, if_pos rfl]
    · simp only [ordU_succ, ht0, fromC]; exact SlR.nil
    · exact ((((hK.base (by omega)).up (c3 := cc1 + 8) (by omega)).call hK2 (by simp)).set (.inl (by omega))).set (.inl (by omega)) |>.up (by omega)
  rintro m _ ⟨h2, c2⟩ ⟨q, rfl, hq, F, G, oa, ocp, C, ⟨env, U, rfl⟩, hb, hF, hG, hFm, hGm, hC, hCl, hO, hOb, hc2, hKK⟩
  dsimp only at hb hC hO hOb hc2
  refine rS (sg 2 J (qM U J (qB U J J J (nK ?_))))
  refine rC U rfl (fun hq20 => ?_) (fun hq20 => ?_)
  · try simp only [dz, dy] at hq20
    have hfl := firstC_le l (q + 1)
    have hpw : 2 ^ (q + 1) ≤ 2 ^ 20 := Nat.pow_le_pow_right (by omega) (by omega)
    have hfl2 : firstC l (q + 1) ≤ 541065216 := by have h1 : 2 * l.length * 2 ^ (q + 1) ≤ 516 * 2 ^ 20 := Nat.mul_le_mul (by omega) hpw; omega
    have hfs : firstC l (q + 1) = 2 * (firstC l q + (those l q).length) := rfl
    have hfc := fromC_le l (q + 1)
    refine rK (kN (rS (rB (sg 3 J (qM U J (q_mul U rfl rfl (m := ((firstC l (q + 1) : Nat) : Int)) (by rw [wrapI oA oA]; omega) ?_))))))
    refine qA U J (nK (sg 7 J (qM U J (qM U J (qM U J (qN U J (qF U J fa333_3 (q_indexAddrA U rfl rfl Tryz.underlying330 i3 s3 ⟨by omega, by omega⟩ ?_))))))))
    refine qW U rfl rfl (by first | assumption | (simp only [gs, hb]; rfl) | (simp [gs, hb]; try rfl)) p3 rfl rfl (by simp [hF, hG]; omega) ?_
    refine nK (rS (rD [] (by decide +kernel) (by decide +kernel) (n := 11) rfl ?_))
    have e39 : ([Value.slice a2 n cp2, .slice (some ⟨cc1 + 4, 0, none⟩) n 1, .slice oa (fromC l (q + 1)) ocp] ++ F.map nv ++ G.map nv).set (0 + 3 + ((q + 1 : Nat) : Int).toNat * 1) (nv (firstC l (q + 1))) = [Value.slice a2 n cp2, .slice (some ⟨cc1 + 4, 0, none⟩) n 1, .slice oa (fromC l (q + 1)) ocp] ++ (F.set (q + 1) (firstC l (q + 1))).map nv ++ G.map nv := by rw [show 0 + 3 + ((q + 1 : Nat) : Int).toNat * 1 = [Value.slice a2 n cp2, .slice (some ⟨cc1 + 4, 0, none⟩) n 1, .slice oa (fromC l (q + 1)) ocp].length + (q + 1) by simp <;> omega]; exact arr_set (by omega)
    simp only [e39]
    refine qM U J (qM U J (qM U J (qN U J (qF U J fa333_2 (qL U rfl (by first | assumption | (simp only [gs, hb]; rfl) | (simp [gs, hb]; try rfl)) ((p171.1 _ _).trans rfl) ?_)))))
    refine q_lenL U J Tryz.underlying171 (qN U J (qF U J fa333_4 (q_indexAddrA U rfl rfl Tryz.underlying331 i3 s3 ⟨by omega, by omega⟩ ?_)))
    refine qW U rfl rfl (by first | assumption | (simp only [gs, hb]; rfl) | (simp [gs, hb]; try rfl)) p3 rfl rfl (by simp [hF, hG]; omega) ?_
    refine ro_nild (kN (sg 3 J ?_))
    have e50 : ([Value.slice a2 n cp2, .slice (some ⟨cc1 + 4, 0, none⟩) n 1, .slice oa (fromC l (q + 1)) ocp] ++ (F.set (q + 1) (firstC l (q + 1))).map nv ++ G.map nv).set (0 + 24 + ((q + 1 : Nat) : Int).toNat * 1) (nv (fromC l (q + 1))) = [Value.slice a2 n cp2, .slice (some ⟨cc1 + 4, 0, none⟩) n 1, .slice oa (fromC l (q + 1)) ocp] ++ (F.set (q + 1) (firstC l (q + 1))).map nv ++ (G.set (q + 1) (fromC l (q + 1))).map nv := by rw [show 0 + 24 + ((q + 1 : Nat) : Int).toNat * 1 = 24 + (q + 1) by omega]; exact arr_set3 (by simp [hF]) (by omega)
    simp only [e50]
    refine qM U J (q_lenL U J Tryz.underlying171 (qM U J (nK (rB ?_))))
    refine rL (fun m env' s' => ∃ j, m = n - j ∧ j ≤ n ∧ ∃ (oa : Option Addr) (ocp : Nat) (C : List Value), Hd 92 [(0, .slice a n cp), (4, ptr (cc1 + 6)), (5, nv (firstC l (q + 1) + (idx ((l.map (· == q + 1)).take j) 0).length)), (6, nv (q + 1)), (51, .slice a n cp), (52, iv n), (53, iv j)] env' ∧ s'.heap.get (cc1 + 6) = some ⟨[Value.slice a2 n cp2, .slice (some ⟨cc1 + 4, 0, none⟩) n 1, .slice oa (fromC l (q + 1) + (idx ((l.map (· == q + 1)).take j) 0).length) ocp] ++ (F.set (q + 1) (firstC l (q + 1))).map nv ++ (G.set (q + 1) (fromC l (q + 1))).map nv, 333, 0⟩ ∧ s'.heap.get (cc1 + 4) = some ⟨C, 38, 1⟩ ∧ C.length = n ∧ SlR 3 1 ((ordU l (q + 1) ++ (idx ((l.map (· == q + 1)).take j) 0)).map nv) oa (fromC l (q + 1) + (idx ((l.map (· == q + 1)).take j) 0).length) ocp s'.heap.get ∧ (∀ z ∈ own oa, cc1 + 8 ≤ z ∧ z < s'.ctr) ∧ cc1 + 8 ≤ s'.ctr ∧ Keep [] h c s') n ?_ ?_
    · refine ⟨0, rfl, Nat.zero_le _, oa, ocp, C, Ho U ⟨rfl, rfl, rfl, rfl, rfl, rfl, rfl, trivial⟩, ?_, ?_, hCl, ?_, fun z hz => by have := hOb z hz; dsimp only; omega, by dsimp only; omega, ((hKK.set (.inl oA)).set (.inl oA)).up oA⟩
      · dsimp only; rw [T.get_set, if_pos rfl]; rfl
      · dsimp only; rw [T.get_set, if_neg (by omega), T.get_set, if_neg (by omega)]; exact hC
      · simp only [List.take_zero, idx, List.append_nil, List.length_nil, Nat.add_zero]; exact hO.move (fun z hz => by have := hOb z hz; rw [T.get_set, if_neg (by omega), T.get_set, if_neg (by omega)])
    rintro m _ ⟨h3, c3⟩ ⟨j, rfl, hj, oa, ocp, C, ⟨env, U, rfl⟩, hb, hC, hCl, hO, hOb, hc2, hKK⟩
    dsimp only at hb hC hO hOb hc2
    have hS3 := hS.move (g' := h3.get) (fun z hz => hKK.2 z (hc z hz) (by simp))
    have hil := idx_le ((l.map (· == q + 1)).take j) 0
    rw [List.length_take, List.length_map] at hil
    refine sg 1 J (qB U J J J (nK (rS ?_)))
    refine rC U rfl (fun hjn => ?_) (fun hjn => ?_)
    · try simp only [dz, dy] at hjn
      obtain ⟨x, hx⟩ : ∃ x, l[j]? = some x := ⟨_, List.getElem?_eq_getElem (by omega)⟩
      obtain ⟨mb, rfl, rfl, hmb⟩ := hS3.pos (by omega)
      have hmc : mb < c := hc mb (by simp [own])
      have htk := those_take (n := q + 1) hx
      refine rK (kN (rS (rB (sg 5 J (qM U J (qI U rfl rfl e171 ⟨by omega, by omega⟩ ?_))))))
      refine qL U rfl (by first | assumption | (simp only [gs, hb]; rfl) | (simp [gs, hb]; try rfl)) ((p3.1 _ _).trans (by simp [hx])) (v := nv x) ?_
      refine qA U J (qA U J (nK (sg 3 J (qM U J (qM U J (qB U J J J (nK ?_)))))))
      refine rC U rfl (fun hxq => ?_) (fun hxq => ?_)
      · try simp only [dz, dy] at hxq
        have hxq2 : x = q + 1 := by omega
        rw [if_pos hxq2] at htk
        refine sg 9 J (qM U J (qN U J (qF U J fa333_1 (qL U rfl (by first | assumption | (simp only [gs, hb]; rfl) | (simp [gs, hb]; try rfl)) ((p63.1 _ _).trans rfl) ?_))))
        refine qM U J (qM U J (qH U J Tryz.underlying3 Tryz.underlying38 wA ?_))
        refine qI U rfl rfl e63 ⟨by omega, by omega⟩ ?_
        refine qW U rfl rfl (by first | assumption | (simp only [gs, hb]; rfl) | (simp [gs, hb]; try rfl)) p38 rfl rfl (by simp; omega) ?_
        refine nK (sg 11 J (qM U J (qM U J (qN U J (qF U J fa333_2 (qL U rfl (by first | assumption | (simp only [gs, hb]; rfl) | (simp [gs, hb]; try rfl)) ((p171.1 _ _).trans rfl) ?_))))))
        refine qM U J (q1_ U J a171 J (qX U rfl rfl a171 a171 (hO.move (fun z hz => by have := hOb z hz; rw [T.get_set, if_neg oA, T.get_set, if_neg oA])) ((T.get_set _ _ _ _).trans (if_pos rfl)) rfl oA oA ?_))
        intro a4 cp4 h4 hS4 hO4 hF4
        have hb4 := (hF4 (cc1 + 6) (by omega) (fun e => by have := hOb _ e; omega)).trans ((T.get_set _ _ _ _).trans ((if_neg (by omega)).trans ((T.get_set _ _ _ _).trans ((if_neg (by omega)).trans hb))))
        refine qN U J (qF U J fa333_2 (qW U rfl rfl (by first | assumption | (simp only [gs, hb]; rfl) | (simp [gs, hb]; try rfl)) p171 rfl rfl (by first | decide | (simp; done) | (simp; omega)) ?_))
        refine nK (rg 3 J (qM U J (qP U J J wA ?_)))
        refine qA U J (rN (kO (kN (rg 2 J (qP U J J wA ?_)))))
        refine qM U J (nK ?_)
        refine ⟨n - (j + 1), by omega, j + 1, rfl, by omega, a4, cp4, C.set j (.int .u32 (firstC l (q + 1) + (idx ((l.map (· == q + 1)).take j) 0).length : Nat)), Ho U ⟨rfl, rfl, by rw [htk, List.length_append]; rfl, rfl, rfl, rfl, rfl, trivial⟩, ?_, ?_, by simp [hCl], ?_, fun z hz => by have := hO4 z hz; dsimp only; omega, by dsimp only; omega, ?_⟩
        · dsimp only; rw [T.get_set, if_pos rfl, htk, List.length_append]; rfl
        · dsimp only; rw [T.get_set, if_neg (by omega), hF4 _ (by omega) (fun e => by have := hOb _ e; omega), T.get_set, if_neg (by omega), T.get_set, if_pos rfl]; simp
        · rw [htk, ← List.append_assoc, List.map_append (l₁ := ordU l (q + 1) ++ idx (List.take j (List.map (· == q + 1) l)) 0), List.length_append]; exact hS4.move (fun z hz => by have := hO4 z hz; rw [T.get_set, if_neg (by omega)])
        · exact ((hKK.set (.inl (by omega))).app2 hF4 (fun z hz => .inl (by have := hOb z hz; omega)) (by omega) (by omega) (by omega)).set (.inl (by omega))
      · try simp only [dz, dy] at hxq
        refine rK (kO (kN (rg 2 J (qP U J J wA ?_))))
        refine qM U J (nK ?_)
        rw [if_neg (by omega)] at htk
        refine ⟨n - (j + 1), by omega, j + 1, rfl, by omega, oa, ocp, C, Ho U ⟨rfl, rfl, by rw [htk]; rfl, rfl, rfl, rfl, rfl, trivial⟩, by rw [htk]; exact hb, hC, hCl, by rw [htk]; exact hO, fun z hz => by have := hOb z hz; dsimp only; omega, by dsimp only; omega, hKK.up oA⟩
    · try simp only [dz, dy] at hjn
      have ej : j = n := by omega
      subst ej
      rw [List.take_of_length_le (by simp; omega)] at hb hO
      have eU : ordU l (q + 1) ++ idx (l.map (· == q + 1)) 0 = ordU l (q + 2) := (ordU_succ l (q + 1)).symm
      rw [eU] at hO
      refine r_exit (kE (kE (kB (kO (kN (rg 3 J (qM U J (qP U J J wA ?_))))))))
      refine qA U J (nK ?_)
      refine ⟨20 - (q + 1), by omega, q + 1, rfl, by omega, (F.set (q + 1) (firstC l (q + 1))), (G.set (q + 1) (fromC l (q + 1))), oa, ocp, C, Ho U ⟨rfl, rfl, by rw [List.take_of_length_le (by simp; omega)]; rfl, rfl, trivial⟩, hb, by simp [hF], by simp [hG], fun m h1 h2 => ?_, fun m h1 h2 => ?_, hC, hCl, hO, fun z hz => by have := hOb z hz; dsimp only; omega, by dsimp only; omega, hKK.up oA⟩
      · rw [getD_set (by omega)]
        split
        · rename_i e; rw [e]
        · exact hFm m h1 (by omega)
      · rw [getD_set (by omega)]
        split
        · rename_i e; rw [e]
        · exact hGm m h1 (by omega)
  · try simp only [dz, dy] at hq20
    have eq20 : q = 20 := by omega
    subst eq20
    refine r_exit (kE (kE (kB (kN (rS (rD [] (by decide +kernel) (by decide +kernel) (n := 10) rfl ?_))))))
    refine qM U J (qM U J (qN U J (qF U J fa333_2 (qL U rfl (by first | assumption | (simp only [gs, hb]; rfl) | (simp [gs, hb]; try rfl)) ((p171.1 _ _).trans rfl) ?_))))
    refine q_lenL U J Tryz.underlying171 (qN U J (qF U J fa333_4 (q_indexAddrA U rfl rfl Tryz.underlying331 i3 s3 ⟨by omega, by omega⟩ ?_)))
    refine qW U rfl rfl (by first | assumption | (simp only [gs, hb]; rfl) | (simp [gs, hb]; try rfl)) p3 rfl rfl (by simp [hF, hG]) ?_
    refine ro_nild (kN (sg 3 J (qM U J (qA U J (qA U J (nK (rR (f_2 U J (.inl J) J J ?_))))))))
    have e50 : ([Value.slice a2 n cp2, .slice (some ⟨cc1 + 4, 0, none⟩) n 1, .slice oa (fromC l (20 + 1)) ocp] ++ F.map nv ++ G.map nv).set (0 + 24 + (21 : Int).toNat * 1) (nv (fromC l (20 + 1))) = [Value.slice a2 n cp2, .slice (some ⟨cc1 + 4, 0, none⟩) n 1, .slice oa (fromC l (20 + 1)) ocp] ++ F.map nv ++ (G.set 21 (fromC l (20 + 1))).map nv := arr_set3 hF (by omega)
    simp only [e50]
    refine ⟨_, oa, rfl, ⟨hx20, by omega, .slice a2 n cp2, .slice (some ⟨cc1 + 4, 0, none⟩) n 1, F, G.set 21 (fromC l (20 + 1)), fromC l (20 + 1), ocp, ?_, hF, by simp [hG], fun m h1 h2 => hFm m h1 h2, fun m h1 h2 => ?_, ?_⟩, fun z hz => ?_, (hKK.set (.inl oA)).up oA⟩
    · rw [T.get_set, if_pos rfl]
    · rw [getD_set (by omega)]
      split
      · rename_i e; subst e; rfl
      · exact hGm m h1 (by omega)
    · exact hO.move (fun z hz => by have := hOb z hz; rw [T.get_set, if_neg (by omega)])
    · rcases List.mem_cons.mp hz with e | hz
      · subst e; omega
      · have := hOb z hz; omega
end
theorem those0 {l : List Nat} (h : ∀ x ∈ l, 1 ≤ x) : those l 0 = [] := by
  have : ∀ (a : List Nat) (k : Nat), (∀ x ∈ a, 1 ≤ x) → idx (a.map (· == 0)) k = [] := by
    intro a
    induction a with
    | nil => intro k _; rfl
    | cons x a ih =>
      intro k hx; have h1 := hx x (by simp); have : (x == 0) = false := by simp; omega
      simp only [List.map_cons, this, idx]; exact ih _ (fun y hy => hx y (by simp [hy]))
  exact this l 0 h
theorem ordC_get {l : List Nat} {n k : Nat} (hn : n ≤ 20) (hk : k < (those l n).length) : (ordC l)[fromC l n + k]? = (those l n)[k]? := by
  have h : ∀ m, n < m → (ordU l m)[fromC l n + k]? = (those l n)[k]? := by
    intro m
    induction m with
    | zero => intro h; omega
    | succ m ih =>
      intro h
      rw [ordU_succ]
      by_cases q : n = m
      · subst q; rw [List.getElem?_append_right (by rw [ordU_len]; omega), ordU_len, Nat.add_sub_cancel_left]
      · have := ih (by omega)
        have U : fromC l n + k < (ordU l m).length := by
          rcases Nat.lt_or_ge (fromC l n + k) (ordU l m).length with q2 | q2
          · exact q2
          · rw [List.getElem?_eq_none q2, List.getElem?_eq_getElem hk] at this; cases this
        rw [List.getElem?_append_left U, this]
  rw [ordC_eq]; exact h 21 (by omega)
theorem fromC_mono (l : List Nat) {a b : Nat} (h : a ≤ b) : fromC l a ≤ fromC l b := by
  induction b with
  | zero => have : a = 0 := by omega
            subst this; exact Nat.le_refl _
  | succ b ih =>
    by_cases e : a = b + 1
    · rw [e]; exact Nat.le_refl _
    · exact Nat.le_trans (ih (by omega)) (by simp only [fromC]; omega)
theorem those_lt {l : List Nat} {n s : Nat} (h : s ∈ those l n) : s < l.length := by
  have := idx_lt _ _ s h; simpa using this.2
section
variable {ov : OvT} (H : OvH ov)
include H
theorem cdget_cr {h : Heap} {c b r dr at_ : Nat} {all : List Bool} {l : List Nat} {o : Option Addr} (hP : CdR l b o h.get) (hR : BitR all dr at_ (h.get r)) (hc : b < c ∧ r < c ∧ ∀ z ∈ own o, z < c) :
    CR Tryz.prog ov 271 [ptr b, ptr r] ⟨h, c⟩ (fun v st => (match getC l 1 0 (all.drop at_) with
      | .ok (s, n) => v = .tuple #[nv s, nv 0] ∧ BitR all dr (at_ + n) (st.heap.get r)
      | .error e => v = .tuple #[nv 0, nv e] ∧ ∃ k, at_ ≤ k ∧ BitR all dr k (st.heap.get r)) ∧ Keep [r] h c st) := by
  obtain ⟨hb1, hr1, ha1⟩ := hc
  obtain ⟨hx, hl258, s1, s2, F, G, no, cp, hb, hF, hG, hFm, hGm, hS⟩ := id hP
  have hne : r ≠ b := hR.ne hb (by dsimp only; decide)
  have hno := hR.own hS (by decide)
  have hlo : (ordC l).length = no := by have := hS.len; simpa using this
  have hno2 : no = fromC l 21 := by rw [← hlo, ordC_eq, ordU_len]
  refine e_2 Tryz.func271 rfl (H _ (by decide)) Tryz.ntmps271 (by decide) ?_
  intro env U
  refine sg 2 J (qA U J (qA U J (nK (sg 1 J (qA U J (nK (rS (sg 1 J (qA U J (nK (rB ?_)))))))))))
  refine rL (fun m env' s' => ∃ q v, m = 20 - q ∧ q ≤ 20 ∧ v < 2 ^ q ∧ firstC l q + (those l q).length ≤ v ∧ getC l (q + 1) v (all.drop (at_ + q)) = getC l 1 0 (all.drop at_) ∧ Hd 59 [(0, ptr b), (1, ptr r), (6, nv v), (7, nv (q + 1))] env' ∧ BitR all dr (at_ + q) (s'.heap.get r) ∧ Keep [r] h c s') 20 ?_ ?_
  · exact ⟨0, 0, rfl, by omega, by decide, by rw [those0 (fun x h => (hx x h).1)]; exact Nat.le_refl 0, rfl, Ho U ⟨rfl, rfl, rfl, rfl, trivial⟩, hR, Keep.refl (by omega)⟩
  rintro m _ ⟨h2, c2⟩ ⟨q, v, rfl, hq, hv, hfv, hgc, ⟨env, U, rfl⟩, hR2, hK⟩
  dsimp only at hR2
  have hcc : c ≤ c2 := hK.1
  have hpw : 2 ^ q ≤ 2 ^ 20 := Nat.pow_le_pow_right (by omega) (by omega)
  refine rS (sg 2 J (qM U J (qB U J J J (nK ?_))))
  refine rC U rfl (fun hq20 => ?_) (fun hq20 => ?_)
  · try simp only [dz, dy] at hq20
    refine rK (kN (rS (rB (sg 7 J (qM U J (qC U J (CR.mono ((get_any H hR2 oA oA (n := 1))) ?_)))))))
    rintro v ⟨hh1, cc1⟩ ⟨e9, w9, rfl, hG9, hGK⟩
    have hcc1 : c2 + 2 + 7 ≤ cc1 := hGK.1
    have hK2 := hK.call (hGK.base (c0 := c2) (by omega)) (fun x hx => .inr hx)
    have hP2 := hP.move (fun z hz => hK2.2 z (by rcases hz with rfl | hz; omega; have := ha1 z hz; omega) (by simp; rintro rfl; rcases hz with hz | hz; exact hne hz; exact hno hz))
    refine qM U J (qE U J J (qE U J J (qA U J (qA U J (nK (rS (sg 2 J (qM U J (qB U J J J (nK ?_))))))))))
    refine rC U rfl (fun he => ?_) (fun he => ?_)
    · try simp only [dz, dy] at he
      refine sg 3 J (qM U J (qA U J (qA U J (nK (rR (kR (k_bloR (kR (kR (k_bloR (kR (f_2 U J (.inl J) J J ?_))))))))))))
      rcases hG9 with ⟨hlt, rfl, _, hR4⟩ | ⟨_, rfl, _, _⟩
      · have hu : getC l 1 0 (all.drop at_) = .error 3 := by rw [← hgc, List.drop_eq_nil_of_le (by omega)]; simp only [getC]; rw [if_neg (by omega)]
        rw [hu]; exact ⟨⟨rfl, _, by omega, hR4⟩, hK2.up (by omega)⟩
      · simp at he
    · try simp only [dz, dy] at he
      rcases hG9 with ⟨_, rfl, _, _⟩ | ⟨hle, _, rfl, hR4⟩
      · simp at he
      obtain ⟨t, ht⟩ : ∃ t, all[at_ + q]? = some t := ⟨_, List.getElem?_eq_getElem (by omega)⟩
      have hd1 := drop_cons ht
      simp only [show (all.drop (at_ + q)).take 1 = [t] by rw [hd1]; rfl, show num [t] = t.toNat by cases t <;> rfl]
      have ht1 : t.toNat ≤ 1 := by cases t <;> decide
      obtain ⟨_, _, s1, s2, F, G, no, cp, hb2, hF, hG, hFm, hGm, hS2⟩ := id hP2
      have hf1 : firstC l (q + 1) = 2 * (firstC l q + (those l q).length) := rfl
      have hr1 : fromC l (q + 2) = fromC l (q + 1) + (those l (q + 1)).length := rfl
      have hl1 := fromC_le l (q + 1)
      have hl2 := fromC_le l (q + 2)
      refine rK (kN (sg 6 J (qM U J (q_mul U J J wA ?_))))
      refine qM U J (qH U J Tryz.underlying38 Tryz.underlying3 wA ?_)
      refine qP U rfl rfl (m := ((2 * v + t.toNat : Nat) : Int)) (by rw [wrapI oA oA]; omega) ?_
      refine qA U J (nK (rS (rD [] (by decide +kernel) (by decide +kernel) (n := 16) rfl ?_)))
      refine qM U J (qM U J (qN U J (qF U J fa333_4 (q_indexAddrA U rfl rfl Tryz.underlying331 i3 s3 ⟨by omega, by omega⟩ ?_))))
      refine qL U rfl (by first | assumption | (simp only [gs, hb2]; rfl) | (simp [gs, hb2]; try rfl)) ((p3.1 _ _).trans (by rw [show 0 + 24 + ((q + 1 : Nat) : Int).toNat * 1 = ([s1, s2, .slice o no cp] ++ F.map nv).length + (q + 1) by simp [hF] <;> omega]; have := arr_get (A := [s1, s2, .slice o no cp] ++ F.map nv) (B := []) (o := G) (i := q + 1) oA; rw [List.append_nil, hGm _ oA oA] at this; exact this)) (v := nv (fromC l (q + 1))) ?_
      refine qM U J (qP U J J wA ?_)
      refine qM U J (qM U J (qN U J (qF U J fa333_3 (q_indexAddrA U rfl rfl Tryz.underlying330 i3 s3 ⟨by omega, by omega⟩ ?_))))
      refine qL U rfl (by first | assumption | (simp only [gs, hb2]; rfl) | (simp [gs, hb2]; try rfl)) ((p3.1 _ _).trans (by rw [show 0 + 3 + ((q + 1 : Nat) : Int).toNat * 1 = [s1, s2, .slice o no cp].length + (q + 1) by simp <;> omega]; have := arr_get (A := [s1, s2, .slice o no cp]) (B := G.map nv) (o := F) (i := q + 1) oA; rw [hFm _ oA oA] at this; exact this)) (v := nv (firstC l (q + 1))) ?_
      refine q_sub U rfl rfl (m := ((fromC l (q + 1) + (2 * v + t.toNat - firstC l (q + 1)) : Nat) : Int)) (by rw [wrapI oA oA]; omega) ?_
      refine qA U J (ro_nild (kN (sg 9 J (qM U J (qM U J (qM U J (qP U J J wA ?_)))))))
      refine qN U J (qF U J fa333_4 (q_indexAddrA U rfl rfl Tryz.underlying331 i3 s3 ⟨by omega, by omega⟩ ?_))
      refine qL U rfl (by first | assumption | (simp only [gs, hb2]; rfl) | (simp [gs, hb2]; try rfl)) ((p3.1 _ _).trans (by rw [show 0 + 24 + (((q + 1 : Nat) : Int) + 1).toNat * 1 = ([s1, s2, .slice o no cp] ++ F.map nv).length + (q + 2) by simp [hF] <;> omega]; have := arr_get (A := [s1, s2, .slice o no cp] ++ F.map nv) (B := []) (o := G) (i := q + 2) oA; rw [List.append_nil, hGm _ oA oA] at this; exact this)) (v := nv (fromC l (q + 2))) ?_
      refine qB U J J J (nK ?_)
      refine rC U rfl (fun hfd => ?_) (fun hfd => ?_)
      · try simp only [dz, dy] at hfd
        have hk : 2 * v + t.toNat - firstC l (q + 1) < (those l (q + 1)).length := by omega
        have hnl : fromC l (q + 2) ≤ no := by have := hS2.len; simp only [List.length_map, ordC_eq, ordU_len] at this; have := fromC_mono l (show q + 2 ≤ 21 by omega); omega
        obtain ⟨mb, rfl, rfl, hmb⟩ := hS2.pos (by omega)
        have hog := ordC_get (l := l) (n := q + 1) (by omega) hk
        refine sg 9 J (qM U J (qN U J (qF U J fa333_2 (qL U rfl (by first | assumption | (simp only [gs, hb2]; rfl) | (simp [gs, hb2]; try rfl)) ((p171.1 _ _).trans rfl) ?_))))
        refine qM U J (qI U rfl rfl e171 ⟨by omega, by omega⟩ ?_)
        refine qL U rfl (by first | assumption | (simp only [gs, hb2]; rfl) | (simp [gs, hb2]; try rfl)) ((p3.1 _ _).trans (by rw [show 0 + ((fromC l (q + 1) + (2 * v + t.toNat - firstC l (q + 1)) : Nat) : Int).toNat * 1 = fromC l (q + 1) + (2 * v + t.toNat - firstC l (q + 1)) by omega]; simp only [List.getElem?_map, hog, List.getElem?_eq_getElem hk]; rfl)) (v := nv ((those l (q + 1))[2 * v + t.toNat - firstC l (q + 1)])) ?_
        refine qA U J (qA U J (nK (rR (k_bloR (kR (kR (k_bloR (kR (f_2 U J (.inl J) J J ?_)))))))))
        have hu : getC l 1 0 (all.drop at_) = .ok ((those l (q + 1))[2 * v + t.toNat - firstC l (q + 1)], q + 1) := by rw [← hgc, hd1]; simp only [getC]; rw [if_neg (by omega), if_pos (by omega), List.getD_eq_getElem?_getD, List.getElem?_eq_getElem hk]; rfl
        rw [hu]; exact ⟨⟨rfl, hR4⟩, hK2.up (by omega)⟩
      · try simp only [dz, dy] at hfd
        refine rK (kO (kN (rg 3 J (qM U J (qP U J J wA ?_)))))
        refine qA U J (nK ?_)
        refine ⟨20 - (q + 1), by omega, q + 1, 2 * v + t.toNat, rfl, by omega, by rw [Nat.pow_succ]; omega, by omega, ?_, Ho U ⟨rfl, rfl, rfl, rfl, trivial⟩, hR4, hK2.up oA⟩
        rw [← hgc, hd1]; simp only [getC]; rw [if_neg (by omega), if_neg (by omega)]; rfl
  · try simp only [dz, dy] at hq20
    refine r_exit (kE (kE (kB (kN (sg 2 J (qA U J (qA U J (nK (rR (f_2 U J (.inl J) J J ?_))))))))))
    have eq20 : q = 20 := by omega
    subst eq20
    have hu : getC l 1 0 (all.drop at_) = .error 22 := by rw [← hgc]; cases all.drop (at_ + 20) <;> (simp only [getC]; rw [if_pos (by omega)])
    rw [hu]; exact ⟨⟨rfl, _, by omega, hR2⟩, hK.up (by omega)⟩
theorem cdGet_cr {h : Heap} {c b r dr at_ : Nat} {all : List Bool} {l : List Nat} {o : Option Addr} (hP : CdR l b o h.get) (hR : BitR all dr at_ (h.get r)) (hc : b < c ∧ r < c ∧ ∀ z ∈ own o, z < c) :
    CR Tryz.prog ov 260 [ptr b, ptr r] ⟨h, c⟩ (fun v st => (match getC l 1 0 (all.drop at_) with
      | .ok (s, n) => v = .tuple #[nv s, nv 0] ∧ BitR all dr (at_ + n) (st.heap.get r)
      | .error e => v = .tuple #[nv 0, nv e] ∧ BitR all dr at_ (st.heap.get r)) ∧ Keep [r] h c st) := by
  have hat : 8 * dr ≤ at_ ∧ at_ ≤ all.length := by obtain ⟨s, _, _, _, h3, h4, _⟩ := hR; exact ⟨h3, h4⟩
  have hH := fun c' (q : c ≤ c') => cdget_cr H (c := c') hP hR ⟨by omega, by omega, fun z hz => by have := hc.2.2 z hz; omega⟩
  cases hs : getC l 1 0 (all.drop at_) with
  | ok x =>
    obtain ⟨s, n⟩ := x
    simp only [hs] at hH
    refine e_2 Tryz.func260 rfl (H _ (by decide)) Tryz.ntmps260 (by decide) ?_
    intro env U
    refine sg 2 J (qA U J (qA U J (nK (rS (sg 6 J (qM U J (qB U J J (nq323 _) (qM U J (qG U J J J J (qM U J (qG U J J J J (qB U J J (nq36 _) (qQ U J J J (J) (nK (rF U J dA ?_)))))))))))))))
    refine rK (kN (sg 3 J (qM U J (qC U J (CR.mono (at_cr H hR) ?_)))))
    rintro v ⟨hh1, cc1⟩ ⟨rfl, rfl, hk⟩
    try dsimp only at hk
    refine qA U J (nK (sg 8 J (qM U J (qM U J (qC U J (CR.mono (hH _ oA) ?_))))))
    rintro v ⟨hh2, cc2⟩ ⟨⟨rfl, hR2⟩, hK⟩
    refine qM U J (qE U J J (qE U J J (qA U J (qA U J (nK (rS (sg 2 J (qM U J (qB U J J J (nK (rF U J dA ?_)))))))))))
    refine rK (kN (sg 4 J (qM U J (qM U J (qA U J (qA U J (nK (rR (f_2 U J (.inl J) J J ?_)))))))))
    exact ⟨⟨rfl, hR2⟩, (hK.base (by omega)).up (by omega)⟩
  | error e =>
    simp only [hs] at hH
    have he0 : ∀ (l2 : List Bool) (n v : Nat), getC l n v l2 = .error e → e ≠ 0 := by
      intro l2
      induction l2 with
      | nil => intro n v h; simp only [getC] at h; split at h <;> (cases h; decide)
      | cons t l2 ih =>
        intro n v h; simp only [getC] at h
        split at h
        · cases h; decide
        · split at h
          · cases h
          · exact ih _ _ h
    have he := he0 _ _ _ hs
    refine e_2 Tryz.func260 rfl (H _ (by decide)) Tryz.ntmps260 (by decide) ?_
    intro env U
    refine sg 2 J (qA U J (qA U J (nK (rS (sg 6 J (qM U J (qB U J J (nq323 _) (qM U J (qG U J J J J (qM U J (qG U J J J J (qB U J J (nq36 _) (qQ U J J J (J) (nK (rF U J dA ?_)))))))))))))))
    refine rK (kN (sg 3 J (qM U J (qC U J (CR.mono (at_cr H hR) ?_)))))
    rintro v ⟨hh1, cc1⟩ ⟨rfl, rfl, hk⟩
    try dsimp only at hk
    refine qA U J (nK (sg 8 J (qM U J (qM U J (qC U J (CR.mono (hH _ oA) ?_))))))
    rintro v ⟨hh2, cc2⟩ ⟨⟨rfl, k, hk3, hR2⟩, hK⟩
    refine qM U J (qE U J J (qE U J J (qA U J (qA U J (nK (rS (sg 2 J (qM U J (qB U J J J (nK (rT U rfl (by simp; omega) ?_)))))))))))
    refine rg 3 J (qM U J (qM U J (qC U J (CR.mono (seek_cr H hR2 hat.1 hat.2) ?_))))
    rintro v ⟨hh3, cc3⟩ ⟨rfl, hR4, hK4⟩
    refine nK (sg 4 J (qM U J (qM U J (qA U J (qA U J (nK (rR (f_2 U J (.inl J) J J ?_))))))))
    exact ⟨⟨rfl, hR4⟩, (((hK.base (by omega)).up (by have := hK.1; dsimp only at *; omega)).call hK4 (fun x hx => .inr hx)).up (by omega)⟩
end
theorem _root_.Go.AE.SlR.own0 {e n cp : Nat} {cs : List Value} {a : Option Addr} {g : Nat → Option Blk} (h : SlR e 1 cs a n cp g) (hn : cs.length = 0) : own a = [] := by
  rcases h with ⟨_, rfl, _, _⟩ | ⟨b, rfl, _, _, U, hp⟩
  · rfl
  · omega
def Co.good (c : Co) : Prop := 3 ≤ c.size ∧ c.size ≤ 258 ∧ c.de.size = c.size ∧ c.de.done = false ∧ (c.pk.done = false → c.tabs = [] ∧ c.de = ⟨c.size, 0, []⟩ ∧ c.out = []) ∧ c.tabs.length ≤ c.pk.t ∧ (∀ l ∈ c.tabs, whole l = true ∧ l.length = c.size) ∧ c.out.length ≤ 50 * c.took.length ∧ (∀ s ∈ c.out, s < c.size)
def CoR (c : Co) (b : Nat) (W : List Nat) (g : Nat → Option Blk) : Prop :=
  c.good ∧ ∃ (pb db : Nat) (pa ta da ca : Option Addr) (tcp ccp : Nat) (cs : List (Nat × Option Addr)),
    g b = some ⟨[nv c.size, ptr pb, .slice ta c.took.length tcp, ptr db, .slice ca cs.length ccp, nv c.out.length, .bool c.done, nv 0], 214, 0⟩ ∧ PkR c.pk pb pa g ∧ SlR 3 1 (c.took.map nv) ta c.took.length tcp g ∧ DeR c.de db da g ∧ SlR 323 1 (cs.map fun x => ptr x.1) ca cs.length ccp g ∧ cs.length = c.tabs.length ∧ (∀ (i : Nat) (x : Nat × Option Addr) (l : List Nat), cs[i]? = some x → c.tabs[i]? = some l → CdR l x.1 x.2 g) ∧ (∀ z ∈ own da, z ∉ own pa ∧ z ∉ own ta ∧ ∀ x ∈ cs, z ∉ own x.2) ∧ W = b :: pb :: db :: (own pa ++ own ta ++ own da ++ own ca ++ cs.flatMap fun x : Nat × Option Addr => x.1 :: own x.2)
def CoPost (h : Heap) (c0 : Nat) (all : List Bool) (dr at_ r b : Nat) (W : List Nat) (c : Co) (X : Int) (res : Except Nat (Co × Option Nat × Nat)) (v : Value) (st : St) : Prop :=
  (match res with
    | .ok (c', s, n) => v = .tuple #[iv (match s with | some s => (s : Int) | none => -1), nv 0] ∧ BitR all dr (at_ + n) (st.heap.get r) ∧ ∃ W', CoR c' b W' st.heap.get ∧ ∀ z ∈ W', z ∈ W ∨ c0 ≤ z ∧ z < st.ctr
    | .error e => v = .tuple #[iv X, nv e] ∧ e ≠ 0 ∧ (e = 3 → BitR all dr at_ (st.heap.get r) ∧ CoR c b W st.heap.get) ∧ (∃ B, st.heap.get b = some B ∧ B.cells.length = 8) ∧ ∃ k, at_ ≤ k ∧ BitR all dr k (st.heap.get r)) ∧ Keep (r :: W) h c0 st
theorem CoR.move {c : Co} {b : Nat} {W : List Nat} {g g' : Nat → Option Blk} (h : CoR c b W g) (hg : ∀ z ∈ W, g' z = g z) : CoR c b W g' := by
  obtain ⟨h0, pb, db, pa, ta, da, ca, tcp, ccp, cs, h1, h2, h3, h4, h5, h6, h7, h8, rfl⟩ := h
  refine ⟨h0, pb, db, pa, ta, da, ca, tcp, ccp, cs, (hg b (by simp)).trans h1, h2.move (fun z hz => hg z (by rcases hz with rfl | hz <;> simp [*])), h3.move (fun z hz => hg z (by simp [hz])), h4.move (fun z hz => hg z (by rcases hz with rfl | hz <;> simp [*])), h5.move (fun z hz => hg z (by simp [hz])), h6, fun i x l hx U => (h7 i x l hx U).move (fun z hz => hg z ?_), h8, rfl⟩
  have hm : x ∈ cs := List.mem_of_getElem? hx
  simp only [List.mem_cons, List.mem_append, List.mem_flatMap]
  exact .inr (.inr (.inr (.inr ⟨x, hm, hz⟩)))
theorem _root_.Go.AE.SlR.kind {e sz n cp : Nat} {cs : List Value} {a : Option Addr} {g : Nat → Option Blk} (h : SlR e sz cs a n cp g) : ∀ z ∈ own a, ∃ B, g z = some B ∧ B.elem = e := by
  rcases h with ⟨_, rfl, _, _⟩ | ⟨b, rfl, _, hg, _, _⟩
  · intro z hz; simp [own] at hz
  · intro z hz; simp only [own, List.mem_singleton] at hz; subst hz; exact ⟨_, hg, rfl⟩
theorem CoR.kind {c : Co} {b : Nat} {W : List Nat} {g : Nat → Option Blk} (h : CoR c b W g) : ∀ z ∈ W, ∃ B, g z = some B ∧ B.elem ∈ [214, 255, 328, 3, 323, 333] := by
  obtain ⟨h0, pb, db, pa, ta, da, ca, tcp, ccp, cs, h1, ⟨_, _, h2, h2'⟩, h3, ⟨_, _, h4, h4'⟩, h5, h6, h7, h8, rfl⟩ := h
  intro z hz
  simp only [List.mem_cons, List.mem_append, List.mem_flatMap] at hz
  rcases hz with rfl | rfl | rfl | ((((hz | hz) | hz) | hz) | ⟨x, hx, hz⟩)
  · exact ⟨_, h1, by simp⟩
  · exact ⟨_, h2, by simp⟩
  · exact ⟨_, h4, by simp⟩
  · obtain ⟨B, q1, q2⟩ := h2'.kind z hz; exact ⟨B, q1, by rw [q2]; simp⟩
  · obtain ⟨B, q1, q2⟩ := h3.kind z hz; exact ⟨B, q1, by rw [q2]; simp⟩
  · obtain ⟨B, q1, q2⟩ := h4'.kind z hz; exact ⟨B, q1, by rw [q2]; simp⟩
  · obtain ⟨B, q1, q2⟩ := h5.kind z hz; exact ⟨B, q1, by rw [q2]; simp⟩
  · obtain ⟨i, hi⟩ := List.getElem?_of_mem hx
    have hil : i < cs.length := by rcases Nat.lt_or_ge i cs.length with q | q; exact q; rw [List.getElem?_eq_none q] at hi; cases hi
    obtain ⟨l, U⟩ : ∃ l, c.tabs[i]? = some l := ⟨_, List.getElem?_eq_getElem (by omega)⟩
    obtain ⟨_, _, _, _, _, _, _, _, q1, _, _, _, _, q2⟩ := h7 i x l hi U
    rcases hz with rfl | hz
    · exact ⟨_, q1, by simp⟩
    · obtain ⟨B, q3, q4⟩ := q2.kind z hz; exact ⟨B, q3, by rw [q4]; simp⟩
theorem kind_ne {W : List Nat} {g : Nat → Option Blk} {L : List Nat} (h : ∀ z ∈ W, ∃ B, g z = some B ∧ B.elem ∈ L) {b : Nat} {B : Blk} (hb : g b = some B) (hn : B.elem ∉ L) : b ∉ W := by
  intro hm; obtain ⟨B', h1, h2⟩ := h b hm; rw [hb] at h1; cases h1; exact hn h2
theorem CoR.r_ne {c : Co} {b : Nat} {W : List Nat} {g : Nat → Option Blk} {all : List Bool} {dr at_ r : Nat} (h : CoR c b W g) (hR : BitR all dr at_ (g r)) : r ∉ W := by
  obtain ⟨s, hs, _⟩ := hR; exact kind_ne h.kind hs (by dsimp only; decide)
theorem Pk.step_err {p : Pk} {l : List Bool} {e : Nat} (h : p.step l = .error e) : e = 3 ∨ e = 25 := by
  simp only [Pk.step, Pk.head, Pk.pick] at h
  repeat' split at h
  all_goals first | (cases h; done) | (cases h; simp)
theorem De.step_err {p : De} {l : List Bool} {e : Nat} (h : p.step l = .error e) : e = 3 ∨ e = 22 := by
  simp only [De.step] at h
  repeat' split at h
  all_goals first | (cases h; done) | (cases h; simp)
section
variable {ov : OvT} (H : OvH ov)
include H
theorem coNew_cr {h : Heap} {c n : Nat} (hn : 3 ≤ n ∧ n ≤ 258) :
    CR Tryz.prog ov 240 [nv n] ⟨h, c⟩ (fun v st => ∃ b W, v = .tuple #[ptr b, nv 0] ∧ CoR (Co.new n) b W st.heap.get ∧ (∀ z ∈ W, c ≤ z ∧ z < st.ctr) ∧ Keep [] h c st) := by
  refine e_1 Tryz.func240 rfl (H _ (by decide)) Tryz.ntmps240 (by decide) ?_
  intro env U
  refine sg 2 J (qA U J (qA U J (nK (sg 7 J (qM U J (qC U J (CR.mono (deNew_cr H hn) ?_)))))))
  rintro v ⟨hh1, cc1⟩ ⟨db, rfl, hD, hDc, hDb, hDK⟩
  have hcc1 := hDK.1
  dsimp only at hcc1 hD hDb
  refine qM U J (qE U J J (qE U J J (qA U J (qA U J (nK (rS (sg 2 J (qM U J (qB U J J J (nK (rF U J dA ?_)))))))))))
  refine rK (kN (sg 7 J (qM U J (qC U J (CR.mono (pkNew_cr H) ?_)))))
  rintro v ⟨hh2, cc2⟩ ⟨pb, rfl, hP, hPc, hPb, hPK⟩
  refine qM U J ?_
  have hcc2 := hPK.1
  dsimp only at hcc2 hP hPb
  refine qU U rfl i214 z214 rfl (by simp [Program.built, Instr.fill, Tryz.underlying214, Value.cells]; rfl) ?_
  refine q_box U J (qA U J (qA U J (nK (rR (f_2 U J (.inl J) J J ?_)))))
  refine ⟨cc1 + 2 + 4, [cc1 + 2 + 4, pb, db], rfl, ⟨⟨hn.1, hn.2, rfl, by simp [De.done, Co.new]; omega, fun _ => ⟨rfl, rfl, rfl⟩, Nat.le_refl _, by simp [Co.new], Nat.zero_le _, by simp [Co.new]⟩, pb, db, none, none, none, none, 0, 0, [], ?_, hP.move ?_, SlR.nil, hD.move ?_, SlR.nil, rfl, by simp, by simp [own], rfl⟩, ?_, ?_⟩
  · dsimp only; rw [T.get_set, if_pos rfl]; rfl
  · intro z hz; simp only [own, List.not_mem_nil, or_false] at hz; subst hz; dsimp only; rw [T.get_set, if_neg (by omega)]
  · intro z hz; simp only [own, List.not_mem_nil, or_false] at hz; subst hz; dsimp only; rw [T.get_set, if_neg (by omega)]; exact hPK.2 _ (by omega) (by simp)
  · intro z hz; simp only [List.mem_cons, List.not_mem_nil, or_false] at hz; rcases hz with rfl | rfl | rfl <;> dsimp only <;> omega
  · exact (((hDK.base (by omega)).up (c3 := cc1 + 2 + 7) (by omega)).call hPK (by simp)).set (.inl (by omega))
end
theorem Pk.step_pos {p p' : Pk} {l : List Bool} {n : Nat} (h : p.step l = .ok (p', n)) : 0 < n ∧ n ≤ l.length := by
  simp only [Pk.step, Pk.head, Pk.pick] at h
  repeat' split at h
  all_goals first | (cases h; done) | skip
  · rename_i h1 h2; cases h; omega
  · rename_i h1 h2
    have : ones (l.take p.t) ≤ (l.take p.t).length := by
      have q : ∀ a : List Bool, ones a ≤ a.length := by
        intro a
        induction a with
        | nil => simp [ones]
        | cons t a ih => cases t <;> simp [ones]; omega
      exact q _
    rw [List.length_take] at this
    cases h; omega
section
variable {ov : OvT} (H : OvH ov)
include H
theorem coPick_cr {h : Heap} {c0 b r dr at_ : Nat} {all : List Bool} {c : Co} {W : List Nat} (hC : CoR c b W h.get) (hR : BitR all dr at_ (h.get r)) (hc : r < c0 ∧ ∀ z ∈ W, z < c0) (hd : c.pk.done = false) :
    CR Tryz.prog ov 246 [ptr b, ptr r] ⟨h, c0⟩ (fun v st => CoPost h c0 all dr at_ r b W c (-1) ((c.pk.step (all.drop at_)).map fun p => ({ c with pk := p.1 }, none, p.2)) v st) := by
  have hrW := hC.r_ne hR
  obtain ⟨⟨g1, g2, g3, g4, g5, g6, g7, g8, g9⟩, pb, db, pa, ta, da, ca, tcp, ccp, cs, hb, hP, hT, hD, hS, hlen, hcd, hdis, rfl⟩ := id hC
  obtain ⟨e1, e2, e3⟩ := g5 hd
  have hto : c.took = [] := by simp [Co.took, hd]
  have hta : own ta = [] := hT.own0 (by rw [hto]; rfl)
  have hcs : cs = [] := by rw [e1] at hlen; exact List.eq_nil_of_length_eq_zero hlen
  subst hcs
  have hca : own ca = [] := hS.own0 (by rfl)
  have hda : own da = [] := by obtain ⟨_, _, _, q⟩ := hD; exact q.own0 (by rw [e2]; rfl)
  simp only [hta, hda, hca, List.flatMap_nil, List.append_nil] at hrW hc hC
  obtain ⟨_, dcp, hdb, hdS⟩ := id hD
  obtain ⟨_, pcp, hpb, hpS⟩ := id hP
  have n1 : b ≠ pb := blk_ne hb hpb (by dsimp only; decide)
  have n2 : db ≠ pb := blk_ne hdb hpb (by dsimp only; decide)
  have n3 : b ∉ own pa := own_ne hpS hb (by dsimp only; decide)
  have n4 : db ∉ own pa := own_ne hpS hdb (by dsimp only; decide)
  have n5 : b ≠ db := blk_ne hb hdb (by dsimp only; decide)
  simp only [List.mem_cons, not_or] at hrW
  have hcb := hc.2 b (by simp)
  have hcp := hc.2 pb (by simp)
  have hcdb := hc.2 db (by simp)
  have hH := fun c' (q : c0 ≤ c') => pkStep_cr H (c := c') hP hR ⟨by omega, by omega, fun z hz => by have := hc.2 z (by simp [hz]); omega⟩ hd
  simp only [hta, hda, hca, List.flatMap_nil, List.append_nil]
  cases hs : c.pk.step (all.drop at_) with
  | error e =>
    simp only [hs] at hH
    have he := Pk.step_err hs
    refine e_2 Tryz.func246 rfl (H _ (by decide)) Tryz.ntmps246 (by decide) ?_
    intro env U
    refine sg 2 J (qA U J (qA U J (nK (sg 7 J (qM U J (qN U J (qF U J fa214_1 (qL U J aA ((p210.1 _ _).trans J) ?_))))))))
    refine qM U J (qC U J (CR.mono (hH _ oA) ?_))
    rintro v ⟨hh1, cc1⟩ ⟨⟨rfl, hsh, ⟨w, hPw⟩, k, hk3, hR2⟩, hK⟩
    skip
    refine qA U J (nK (rS (sg 5 J ?_)))
    have hcc1 := hK.1
    dsimp only at hcc1 hPw hR2 hsh
    have hb1 := (hK.2 b (by omega) (by simp [Ne.symm hrW.1, n1, n3])).trans hb
    refine qM U J (qN U J (qF U J fa214_1 (qL U J aA ((p210.1 _ _).trans J) ?_)))
    refine qC U J (CR.mono (pkDone_cr H hPw) ?_)
    rintro v ⟨hh2, cc2⟩ ⟨rfl, rfl, hk⟩
    try dsimp only at hk
    refine nK (rF U rfl (by exact hd) ?_)
    refine rK (kN (sg 3 J (qM U J (qA U J (qA U J (nK (rR (f_2 U J (.inl J) J J ?_))))))))
    refine ⟨⟨rfl, by omega, fun q => ⟨(hsh q).1, ?_⟩, ⟨_, hb1, rfl⟩, k, hk3, hR2⟩, (((hK.base oA).weak ?_).up oA)⟩
    · refine ⟨⟨g1, g2, g3, g4, g5, g6, g7, g8, g9⟩, pb, db, pa, ta, da, ca, tcp, ccp, [], hb1, (hsh q).2, hT.move (by simp [hta]), hD.move ?_, hS.move (by simp [hca]), hlen, by simp, by simp [hda], by simp [hta, hda, hca]⟩
      intro z hz; simp only [hda, List.not_mem_nil, or_false] at hz; subst hz; exact hK.2 _ (by omega) (by simp [Ne.symm hrW.2.2.1, n2, n4])
    · intro x hx; simp only [List.mem_cons] at hx ⊢; rcases hx with q | q | q <;> simp [q]
  | ok x =>
    obtain ⟨p', n⟩ := x
    simp only [hs] at hH
    by_cases hd' : p'.done = true
    · have hto' : ({ c with pk := p' } : Co).took = p'.picks := by simp [Co.took, hd']
      refine e_2 Tryz.func246 rfl (H _ (by decide)) Tryz.ntmps246 (by decide) ?_
      intro env U
      refine sg 2 J (qA U J (qA U J (nK (sg 7 J (qM U J (qN U J (qF U J fa214_1 (qL U J aA ((p210.1 _ _).trans J) ?_))))))))
      refine qM U J (qC U J (CR.mono (hH _ oA) ?_))
      rintro v ⟨hh1, cc1⟩ ⟨⟨rfl, hR2, pa', hP2, hO2⟩, hK⟩
      refine qA U J (nK (rS (sg 5 J ?_)))
      have hcc1 := hK.1
      dsimp only at hcc1 hP2 hR2 hO2
      have hb1 := (hK.2 b (by omega) (by simp [Ne.symm hrW.1, n1, n3])).trans hb
      refine qM U J (qN U J (qF U J fa214_1 (qL U J aA ((p210.1 _ _).trans J) ?_)))
      refine qC U J (CR.mono (pkDone_cr H hP2) ?_)
      rintro v ⟨hh2, cc2⟩ ⟨rfl, rfl, hk⟩
      try dsimp only at hk
      refine nK (rT U rfl (by exact hd') ?_)
      refine rg 9 J (qM U J (qM U J (qN U J (qF U J fa214_1 (qL U J aA ((p210.1 _ _).trans J) ?_)))))
      refine qC U J (CR.mono (pkPicks_cr H hP2 (fun z hz => by rcases hO2 z hz with q | q; (have := hc.2 z (by simp [q]); omega); omega)) ?_)
      rintro v ⟨hh3, cc3⟩ ⟨a3, cp3, rfl, hS3, hO3, hK3⟩
      have hcc3 := hK3.1
      dsimp only at hcc3 hS3 hO3
      have hb3 := (hK3.2 b (by omega) (by simp)).trans hb1
      refine qN U J (qF U J fa214_2 (qW U rfl rfl aA p171 rfl rfl (by first | decide | (simp; done) | (simp; omega)) ?_))
      refine nK (sg 3 J (qM U J (qA U J (qA U J (nK (rR (f_2 U J (.inl J) J J ?_)))))))
      have hP3 := hP2.move (g' := hh3.get) (fun z hz => hK3.2 z (by rcases hz with rfl | hz; omega; rcases hO2 z hz with q | q; (have := hc.2 z (by simp [q]); omega); omega) (by simp))
      have hpa3 : ∀ z ∈ own pa', z ≠ b := fun z hz e => by subst e; obtain ⟨_, _, _, q⟩ := hP3; obtain ⟨B, q1, q2⟩ := q.kind z hz; rw [hb3] at q1; cases q1; exact absurd q2 (by dsimp only; decide)
      refine ⟨⟨rfl, hR2.move ?_, _, ⟨⟨g1, g2, g3, g4, fun q => absurd (hd'.symm.trans q) (by decide), by dsimp only; rw [e1]; exact Nat.zero_le _, g7, by dsimp only; rw [e3]; exact Nat.zero_le _, g9⟩, pb, db, pa', a3, da, ca, cp3, ccp, [], ?_, hP3.move ?_, ?_, hD.move ?_, hS.move (by simp [hca]), hlen, by simp, by simp [hda], rfl⟩, ?_⟩, ?_⟩
      · dsimp only; rw [T.get_set, if_neg (by exact hrW.1)]; exact hK3.2 r (by omega) (by simp)
      · dsimp only; rw [T.get_set, if_pos rfl, hto']; rfl
      · intro z hz; dsimp only; rw [T.get_set, if_neg]; rcases hz with rfl | hz; (exact n1.symm); (exact hpa3 z hz)
      · rw [hto']; exact hS3.move (fun z hz => by have := hO3 z hz; rw [T.get_set, if_neg (by omega)])
      · intro z hz; simp only [hda, List.not_mem_nil, or_false] at hz; subst hz; dsimp only; rw [T.get_set, if_neg n5.symm, hK3.2 _ (by omega) (by simp)]; exact hK.2 _ (by omega) (by simp [Ne.symm hrW.2.2.1, n2, n4])
      · intro z hz; simp only [hda, hca, List.flatMap_nil, List.append_nil, List.mem_cons, List.mem_append] at hz ⊢
        rcases hz with q | q | q | q | q
        · exact .inl (.inl q)
        · exact .inl (.inr (.inl q))
        · exact .inl (.inr (.inr (.inl q)))
        · rcases hO2 z q with q2 | q2; (exact .inl (.inr (.inr (.inr q2)))); (right; omega)
        · have := hO3 z q; right; omega
      · refine (((((hK.base oA).weak (W' := r :: b :: pb :: db :: own pa) ?_).up (c3 := cc2 + 9) oA).call hK3 (by simp)).set (.inr (by simp))).up oA
        intro x hx; simp only [List.mem_cons] at hx ⊢; rcases hx with q | q | q <;> simp [q]
    · have hd2 : p'.done = false := by simpa using hd'
      have hto' : ({ c with pk := p' } : Co).took = [] := by simp [Co.took, hd2]
      refine e_2 Tryz.func246 rfl (H _ (by decide)) Tryz.ntmps246 (by decide) ?_
      intro env U
      refine sg 2 J (qA U J (qA U J (nK (sg 7 J (qM U J (qN U J (qF U J fa214_1 (qL U J aA ((p210.1 _ _).trans J) ?_))))))))
      refine qM U J (qC U J (CR.mono (hH _ oA) ?_))
      rintro v ⟨hh1, cc1⟩ ⟨⟨rfl, hR2, pa', hP2, hO2⟩, hK⟩
      refine qA U J (nK (rS (sg 5 J ?_)))
      have hcc1 := hK.1
      dsimp only at hcc1 hP2 hR2 hO2
      have hb1 := (hK.2 b (by omega) (by simp [Ne.symm hrW.1, n1, n3])).trans hb
      refine qM U J (qN U J (qF U J fa214_1 (qL U J aA ((p210.1 _ _).trans J) ?_)))
      refine qC U J (CR.mono (pkDone_cr H hP2) ?_)
      rintro v ⟨hh2, cc2⟩ ⟨rfl, rfl, hk⟩
      try dsimp only at hk
      refine nK (rF U rfl (by exact hd2) ?_)
      refine rK (kN (sg 3 J (qM U J (qA U J (qA U J (nK (rR (f_2 U J (.inl J) J J ?_))))))))
      refine ⟨⟨rfl, hR2, _, ⟨⟨g1, g2, g3, g4, fun q => ⟨e1, e2, e3⟩, by dsimp only; rw [e1]; exact Nat.zero_le _, g7, by dsimp only; rw [e3]; exact Nat.zero_le _, g9⟩, pb, db, pa', ta, da, ca, tcp, ccp, [], ?_, hP2, ?_, hD.move ?_, hS.move (by simp [hca]), hlen, by simp, by simp [hda], rfl⟩, ?_⟩, ((hK.base oA).weak ?_).up oA⟩
      · rw [hto']; rw [hto] at hb1; exact hb1
      · rw [hto']; rw [hto] at hT; exact hT.move (by simp [hta])
      · intro z hz; simp only [hda, List.not_mem_nil, or_false] at hz; subst hz; exact hK.2 _ (by omega) (by simp [Ne.symm hrW.2.2.1, n2, n4])
      · intro z hz; simp only [hta, hda, hca, List.flatMap_nil, List.append_nil, List.mem_cons] at hz ⊢
        rcases hz with q | q | q | q
        · exact .inl (.inl q)
        · exact .inl (.inr (.inl q))
        · exact .inl (.inr (.inr (.inl q)))
        · rcases hO2 z q with q2 | q2; (exact .inl (.inr (.inr (.inr q2)))); (right; omega)
      · intro x hx; simp only [List.mem_cons] at hx ⊢; rcases hx with q | q | q <;> simp [q]
end
def Co.tab (c : Co) (l : List Bool) : Except Nat (Co × Option Nat × Nat) := match c.de.step l with
    | .error e => .error e
    | .ok (d, n) => if !d.done then .ok ({ c with de := d }, none, n) else if !whole d.lens then .error 22 else .ok ({ c with de := ⟨c.size, 0, []⟩, tabs := c.tabs ++ [d.lens] }, none, n)
theorem De.step_size {d d' : De} {l : List Bool} {n : Nat} (h : d.step l = .ok (d', n)) : d'.size = d.size := by
  simp only [De.step] at h
  repeat' split at h
  all_goals first | (cases h; done) | (cases h; rfl)
section
variable {ov : OvT} (H : OvH ov)
include H
theorem cdNewBad_cr {h : Heap} {c n cp : Nat} {l : List Nat} {a : Option Addr} (hS : SlR 3 1 (l.map nv) a n cp h.get) (hc : ∀ z ∈ own a, z < c) (hn : 3 ≤ n ∧ n ≤ 258) (hx20 : ∀ x ∈ l, 1 ≤ x ∧ x ≤ 20) (hw : whole l = false) :
    CR Tryz.prog ov 264 [.slice a n cp] ⟨h, c⟩ (fun v st => v = .tuple #[.pointer none, nv 22] ∧ Keep [] h c st) := by
  have hg1 : decide ((n : Int) < 3) = false := by simp; omega
  refine e_1 Tryz.func264 rfl (H _ (by decide)) Tryz.ntmps264 (by decide) ?_
  intro env U
  refine sg 2 J (qA U J (qA U J (nK (rS (rB (sg 9 J (qM U J (q_lenL U J Tryz.underlying171 (qB U J J J (qM U J (qG U J J J hg1 (qM U J (qG U J J J hg1 (q_lenL U J Tryz.underlying171 (qG U J J J hg1 (qB U J J J (qQ U rfl rfl rfl (if_neg (by rw [hg1]; decide)) ?_)))))))))))))))))
  refine qA U J (nK (rF U J dA ?_))
  refine sg 4 J (qM U J (qC U J (CR.mono (whole_cr H hS (fun z hz => by have := hc z hz; omega) hn.2 hx20) ?_)))
  rintro v ⟨hh1, cc1⟩ ⟨rfl, hK⟩
  refine q_un U J J (qA U J (nK (rT U rfl (by simp [hw]) ?_)))
  refine sg 2 J (qA U J (qA U J (nK (rR (k_bloR (kR (f_2 U J (.inl J) J J ?_)))))))
  exact ⟨rfl, (hK.base (by omega)).up (by have := hK.1; dsimp only at *; omega)⟩
theorem coTable_cr {h : Heap} {c0 b r dr at_ : Nat} {all : List Bool} {c : Co} {W : List Nat} (hC : CoR c b W h.get) (hR : BitR all dr at_ (h.get r)) (hc : r < c0 ∧ ∀ z ∈ W, z < c0) (hd : c.pk.done = true) (ht : c.tabs.length < c.pk.t) :
    CR Tryz.prog ov 248 [ptr b, ptr r] ⟨h, c0⟩ (fun v st => CoPost h c0 all dr at_ r b W c (-1) (c.tab (all.drop at_)) v st) := by
  have hrW := hC.r_ne hR
  have hK0 := hC.kind
  obtain ⟨⟨g1, g2, g3, g4, g5, g6, g7, g8, g9⟩, pb, db, pa, ta, da, ca, tcp, ccp, cs, hb, hP, hT, hD, hS, hlen, hcd, hdis, rfl⟩ := id hC
  obtain ⟨hDg, dcp, hdb, hdS⟩ := id hD
  obtain ⟨hPg, pcp, hpb, hpS⟩ := id hP
  have ht6 := hPg.2.2.1
  have hcb := hc.2 b (by simp)
  have hcp := hc.2 pb (by simp)
  have hcdb := hc.2 db (by simp)
  have hcda : ∀ z ∈ own da, z < c0 := fun z hz => hc.2 z (by simp [hz])
  have hrb : r ≠ b := fun e => hrW (by simp [e])
  -- all that the reader of lengths does not touch
  have hM : ∀ z ∈ b :: pb :: (own pa ++ own ta ++ own ca ++ cs.flatMap fun x : Nat × Option Addr => x.1 :: own x.2), z < c0 ∧ z ∉ r :: db :: own da := by
    intro z hz
    have hzW : z ∈ b :: pb :: db :: (own pa ++ own ta ++ own da ++ own ca ++ cs.flatMap fun x : Nat × Option Addr => x.1 :: own x.2) := by
      simp only [List.mem_cons, List.mem_append] at hz ⊢
      rcases hz with q | q | (((q | q) | q) | q) <;> simp [q]
    refine ⟨hc.2 z hzW, ?_⟩
    have hzr : z ≠ r := fun e => hrW (e ▸ hzW)
    simp only [List.mem_cons, not_or]
    refine ⟨hzr, ?_, ?_⟩
    · rintro rfl
      simp only [List.mem_cons, List.mem_append, List.mem_flatMap] at hz
      rcases hz with q | q | (((q | q) | q) | ⟨x, hx, q⟩)
      · exact blk_ne hdb hb (by dsimp only; decide) q
      · exact blk_ne hdb hpb (by dsimp only; decide) q
      · exact own_ne hpS hdb (by dsimp only; decide) q
      · exact own_ne hT hdb (by dsimp only; decide) q
      · exact own_ne hS hdb (by dsimp only; decide) q
      · obtain ⟨i, hi⟩ := List.getElem?_of_mem hx
        have hil : i < cs.length := by rcases Nat.lt_or_ge i cs.length with q | q; exact q; rw [List.getElem?_eq_none q] at hi; cases hi
        obtain ⟨l, U⟩ : ∃ l, c.tabs[i]? = some l := ⟨_, List.getElem?_eq_getElem (by omega)⟩
        obtain ⟨_, _, _, _, _, _, _, _, q1, _, _, _, _, q2⟩ := hcd i x l hi U
        rcases q with q | q
        · exact blk_ne hdb q1 (by dsimp only; decide) q
        · exact own_ne q2 hdb (by dsimp only; decide) q
    · intro hda
      obtain ⟨B, q1, q2⟩ := hdS.kind z hda
      simp only [List.mem_cons, List.mem_append, List.mem_flatMap] at hz
      rcases hz with q | q | (((q | q) | q) | ⟨x, hx, q⟩)
      · subst q; rw [hb] at q1; cases q1; exact absurd q2 (by dsimp only; decide)
      · subst q; rw [hpb] at q1; cases q1; exact absurd q2 (by dsimp only; decide)
      · exact (hdis z hda).1 q
      · exact (hdis z hda).2.1 q
      · obtain ⟨B', q3, q4⟩ := hS.kind z q; rw [q1] at q3; cases q3; rw [q2] at q4; exact absurd q4 (by decide)
      · obtain ⟨i, hi⟩ := List.getElem?_of_mem hx
        have hil : i < cs.length := by rcases Nat.lt_or_ge i cs.length with q | q; exact q; rw [List.getElem?_eq_none q] at hi; cases hi
        obtain ⟨l, U⟩ : ∃ l, c.tabs[i]? = some l := ⟨_, List.getElem?_eq_getElem (by omega)⟩
        obtain ⟨_, _, _, _, _, _, _, _, q3, _, _, _, _, q4⟩ := hcd i x l hi U
        rcases q with q | q
        · subst q; rw [q1] at q3; cases q3; exact absurd q2 (by dsimp only; decide)
        · exact (hdis z hda).2.2 x hx q
  have hsub : ∀ x, x ∈ r :: db :: own da → x ∈ r :: b :: pb :: db :: (own pa ++ own ta ++ own da ++ own ca ++ cs.flatMap fun x : Nat × Option Addr => x.1 :: own x.2) := by
    intro x hx; simp only [List.mem_cons, List.mem_append] at hx ⊢; rcases hx with q | q | q <;> simp [q]
  have mk : ∀ (d' : De) (da' : Option Addr) (g' : Nat → Option Blk), DeR d' db da' g' → (∀ z ∈ b :: pb :: (own pa ++ own ta ++ own ca ++ cs.flatMap fun x : Nat × Option Addr => x.1 :: own x.2), g' z = h.get z) → (∀ z ∈ own da', z ∈ own da ∨ c0 ≤ z) → d'.size = c.size → d'.done = false → CoR { c with de := d' } b (b :: pb :: db :: (own pa ++ own ta ++ own da' ++ own ca ++ cs.flatMap fun x : Nat × Option Addr => x.1 :: own x.2)) g' := by
    intro d' da' g' hD' hg hda' hsz hdn
    refine ⟨⟨g1, g2, hsz, hdn, fun q => absurd (hd.symm.trans q) (by decide), g6, g7, g8, g9⟩, pb, db, pa, ta, da', ca, tcp, ccp, cs, (hg b (by simp)).trans hb, hP.move (fun z hz => hg z (by rcases hz with rfl | hz <;> simp [*])), hT.move (fun z hz => hg z (by simp [hz])), hD', hS.move (fun z hz => hg z (by simp [hz])), hlen, fun i x l hx U => (hcd i x l hx U).move (fun z hz => hg z ?_), fun z hz => ?_, rfl⟩
    · have hm : x ∈ cs := List.mem_of_getElem? hx
      simp only [List.mem_cons, List.mem_append, List.mem_flatMap]
      exact .inr (.inr (.inr ⟨x, hm, hz⟩))
    · rcases hda' z hz with q | q
      · exact hdis z q
      · refine ⟨fun m => ?_, fun m => ?_, fun x hx m => ?_⟩
        · have := (hM z (by simp [m])).1; omega
        · have := (hM z (by simp [m])).1; omega
        · have := (hM z (by simp only [List.mem_cons, List.mem_append, List.mem_flatMap]; exact .inr (.inr (.inr ⟨x, hx, .inr m⟩)))).1; omega
  have hH := fun c' (q : c0 ≤ c') => deStep_cr H (c := c') hD hR ⟨by omega, by omega, fun z hz => by have := hcda z hz; omega⟩ g4
  simp only [Co.tab]
  cases hs : c.de.step (all.drop at_) with
  | error e =>
    simp only [hs] at hH
    have he := De.step_err hs
    have hne0 : ((e : Int) != 0) = true := by simp; omega
    refine e_2 Tryz.func248 rfl (H _ (by decide)) Tryz.ntmps248 (by decide) ?_
    intro env U
    refine sg 2 J (qA U J (qA U J (nK (rS (sg 7 J (qM U J (qN U J (qF U J fa214_3 (qL U J aA ((p211.1 _ _).trans J) ?_)))))))))
    refine qM U J (qC U J (CR.mono (hH _ oA) ?_))
    rintro v ⟨hh1, cc1⟩ ⟨⟨rfl, hsh, k, hk3, hR2⟩, hK⟩
    refine qA U J (nK (sg 10 J (qM U J (qB U J J J (qM U J (qS U rfl rfl rfl rfl (by rw [hne0]; decide) ?_))))))
    refine qS U rfl rfl rfl rfl (by rw [hne0]; decide) ?_
    refine qS U rfl rfl rfl rfl (by rw [hne0]; decide) ?_
    refine qS U rfl rfl rfl rfl (by rw [hne0]; decide) ?_
    refine q_skipW U rfl rfl rfl rfl (by rw [hne0]; decide) ?_
    refine qS U rfl rfl rfl rfl (by rw [hne0]; decide) ?_
    refine qQ U J J J (if_pos hne0) (nK (rT U rfl (by rfl) ?_))
    refine sg 3 J (qM U J (qA U J (qA U J (nK (rR (kR (f_2 U J (.inl J) J J ?_)))))))
    have hM1 : ∀ z ∈ b :: pb :: (own pa ++ own ta ++ own ca ++ cs.flatMap fun x : Nat × Option Addr => x.1 :: own x.2), hh1.get z = h.get z := fun z hz => hK.2 z (by have := (hM z hz).1; omega) (hM z hz).2
    refine ⟨⟨rfl, by omega, fun q => ⟨(hsh q).1, mk c.de da _ (hsh q).2 hM1 (fun z hz => .inl hz) g3 g4⟩, ⟨_, (hM1 b (by simp)).trans hb, rfl⟩, k, hk3, hR2⟩, ((hK.base oA).weak hsub).up oA⟩
  | ok x =>
    obtain ⟨d', n⟩ := x
    simp only [hs] at hH
    have hsz : d'.size = c.size := (De.step_size hs).trans g3
    by_cases hdn : d'.done = true
    · by_cases hw : whole d'.lens = true
      · skip
        refine e_2 Tryz.func248 rfl (H _ (by decide)) Tryz.ntmps248 (by decide) ?_
        intro env U
        refine sg 2 J (qA U J (qA U J (nK (rS (sg 7 J (qM U J (qN U J (qF U J fa214_3 (qL U rfl (by first | assumption | (simp only [gs, hb5]; rfl) | (simp [gs, hb5]; try rfl)) ((p211.1 _ _).trans rfl) ?_)))))))))
        refine qM U J (qC U J (CR.mono (hH _ oA) ?_))
        rintro v ⟨hh1, cc1⟩ ⟨⟨rfl, hR2, da', hD2, hO2⟩, hK⟩
        refine qA U J (nK (sg 10 J ?_))
        have hM1 : ∀ z ∈ b :: pb :: (own pa ++ own ta ++ own ca ++ cs.flatMap fun x : Nat × Option Addr => x.1 :: own x.2), hh1.get z = h.get z := fun z hz => hK.2 z (by have := (hM z hz).1; omega) (hM z hz).2
        have hb1 := (hM1 b (by simp)).trans hb
        have hcc1 := hK.1
        dsimp only at hcc1 hD2 hR2 hO2
        refine qM U J (qB U J J J (qM U J (qG U J J J J (qM U J (qG U J J J J (qN U J (qG U J J J J (qF U J fa214_3 (qG U J J J J (qL U rfl (by first | assumption | (simp only [gs, hb5]; rfl) | (simp [gs, hb5]; try rfl)) ((p211.1 _ _).trans rfl) ?_))))))))))
        refine qG U J J J J (qC U J (CR.mono (deDone_cr H hD2) ?_))
        rintro v ⟨hh2, cc2⟩ ⟨rfl, rfl, hk⟩
        try dsimp only at hk
        refine qG U J J J J (q_un U J J (qQ U J J J (J) (nK (rF U rfl (by simp [hdn]) ?_))))
        refine rK (kN (sg 11 J ?_))
        have hl0 : d'.lens.length = d'.size := by simpa [De.done] using hdn
        refine qM U J (qN U J (qF U J fa214_3 (qL U rfl (by first | assumption | (simp only [gs, hb5]; rfl) | (simp [gs, hb5]; try rfl)) ((p211.1 _ _).trans rfl) ?_)))
        refine qC U J (CR.mono (deLens_cr H hD2 (fun z hz => by rcases hO2 z hz with q | q; (have := hcda z q; omega); omega)) ?_)
        rintro v ⟨hh3, cc3⟩ ⟨a3, cp3, rfl, hS3, hO3, hK3⟩
        refine qC U J (CR.mono (cdNew_cr H hS3 (fun z hz => by have := hO3 z hz; dsimp only at this; omega) oA hD2.1.2.2.2.2 hw) ?_)
        rintro v ⟨hh4, cc4⟩ ⟨nb, no, rfl, hN4, hO4, hK4⟩
        refine qM U J ?_
        have hcc3 := hK3.1
        have hcc4 := hK4.1
        dsimp only at hcc3 hcc4 hO3 hO4 hN4
        have e4 : ∀ z, z < cc1 → hh4.get z = hh1.get z := fun z hz => (hK4.2 z (by omega) (by simp)).trans (hK3.2 z (by omega) (by simp))
        have hb4 := (e4 b (by omega)).trans hb1
        have hS4 : SlR 323 1 (cs.map fun x => ptr x.1) ca cs.length ccp hh4.get := hS.move (fun z hz => (e4 z (by have := hc.2 z (by simp [hz]); omega)).trans (hM1 z (by simp [hz])))
        have hbca : b ∉ own ca := own_ne hS hb (by dsimp only; decide)
        refine qE U J J (qE U J J (qA U J (qA U J (nK (rS (sg 2 J (qM U J (qB U J J J (nK (rF U J dA ?_))))))))))
        refine rK (kN (sg 11 J (qM U J (qM U J (qN U J (qF U J fa214_4 (qL U rfl (by first | assumption | (simp only [gs, hb5]; rfl) | (simp [gs, hb5]; try rfl)) ((p212.1 _ _).trans rfl) ?_)))))))
        refine qM U J (q1_ U J a212 J (qX U rfl rfl a212 a212 (hS4.move (fun z hz => by have := hc.2 z (by simp [hz]); rw [T.get_set, if_neg oA])) ((T.get_set _ _ _ _).trans (if_pos rfl)) rfl oA oA ?_))
        intro ca5 cp5 h5 hS5 hO5 hF5
        have hb5 := (hF5 b (by omega) hbca).trans ((T.get_set _ _ _ _).trans ((if_neg (by omega)).trans hb4))
        refine qN U J (qF U J fa214_4 (qW U rfl rfl (by first | assumption | (simp only [gs, hb5]; rfl) | (simp [gs, hb5]; try rfl)) p212 rfl rfl (by first | decide | (simp; done) | (simp; omega)) ?_))
        refine nK (sg 10 J (qM U J (qN U J (qF U J fa214_0 (qL U rfl (by first | assumption | (simp only [gs, hb5]; rfl) | (simp [gs, hb5]; try rfl)) ((p3.1 _ _).trans rfl) ?_)))))
        refine qC U J (CR.mono (deNew_cr H ⟨g1, g2⟩) ?_)
        rintro v ⟨hh5, cc5⟩ ⟨nd, rfl, hD6, hc6, hx6, hK6⟩
        refine qM U J (qE U J J (qE U J J (qA U J (qA U J (nK (sg 5 J ?_))))))
        have hcc5 := hK6.1
        dsimp only at hcc5 hx6 hD6
        have hb6 := (hK6.2 b (by omega) (by simp)).trans ((T.get_set _ _ _ _).trans (if_pos rfl))
        refine qM U J (qM U J (qN U J (qF U J fa214_3 (qW U rfl rfl (by first | assumption | (simp only [gs, hb5]; rfl) | (simp [gs, hb5]; try rfl)) p211 rfl rfl (by first | decide | (simp; done) | (simp; omega)) ?_))))
        refine nK (sg 2 J (qA U J (qA U J (nK (rR (f_2 U J (.inl J) J J ?_))))))
        generalize hfh : T.set hh5 b _ = hf
        have hf2 : ∀ z, z < cc4 → z ≠ b → z ∉ own ca → hf.get z = hh4.get z := by
          intro z h1 h2 h3
          rw [← hfh, T.get_set, if_neg h2, hK6.2 z (by omega) (by simp), T.get_set, if_neg h2, hF5 z (by omega) h3, T.get_set, if_neg (by omega)]
        have hf1 : ∀ z, z < cc1 → z ≠ b → z ∉ own ca → hf.get z = hh1.get z := fun z h1 h2 h3 => (hf2 z (by omega) h2 h3).trans (e4 z h1)
        have hf0 : ∀ z ∈ b :: pb :: (own pa ++ own ta ++ own ca ++ cs.flatMap fun x : Nat × Option Addr => x.1 :: own x.2), z ≠ b → z ∉ own ca → hf.get z = h.get z := fun z hz h2 h3 => (hf1 z (by have := (hM z hz).1; omega) h2 h3).trans (hM1 z hz)
        have nk : ∀ z B, h.get z = some B → B.elem ≠ 214 → B.elem ≠ 323 → z ≠ b ∧ z ∉ own ca := fun z B q1 q2 q3 => ⟨blk_ne q1 hb (by dsimp only; exact q2), fun m => by obtain ⟨B', q4, q5⟩ := hS.kind z m; rw [q1] at q4; cases q4; exact q3 q5⟩
        have hbf : hf.get b = some ⟨[nv c.size, ptr pb, .slice ta c.took.length tcp, ptr nd, .slice ca5 (cs.length + 1) cp5, nv c.out.length, .bool c.done, nv 0], 214, 0⟩ := by rw [← hfh, T.get_set, if_pos rfl]; rfl
        have hO5' : ∀ z ∈ own ca5, cc4 ≤ z ∧ z < cc5 := fun z hz => by have := hO5 z hz; omega
        simp only [hdn, hw, Bool.not_true, Bool.false_eq_true, if_false]
        refine ⟨⟨rfl, (hR2.move (hf1 r oA hrb (fun m => hrW (by simp [m])))), _, ⟨⟨g1, g2, rfl, by simp [De.done]; omega, fun q => absurd (hd.symm.trans q) (by decide), by simp; omega, ?_, g8, g9⟩, pb, nd, pa, ta, none, ca5, tcp, cp5, cs ++ [(nb, no)], ?_, hP.move ?_, hT.move ?_, hD6.move ?_, ?_, by simp [hlen], ?_, by simp [own], rfl⟩, ?_⟩, ?_⟩
        · intro l U; rcases List.mem_append.mp U with q | q
          · exact g7 l q
          · simp only [List.mem_singleton] at q; subst q; exact ⟨hw, by dsimp only; omega⟩
        · rw [List.length_append]; exact hbf
        · intro z hz; rcases hz with rfl | hz
          · have := nk z _ hpb (by dsimp only; decide) (by dsimp only; decide); exact hf0 z (by simp) this.1 this.2
          · obtain ⟨B, q1, q2⟩ := hpS.kind z hz; have := nk z B q1 (by rw [q2]; decide) (by rw [q2]; decide); exact hf0 z (by simp [hz]) this.1 this.2
        · intro z hz; obtain ⟨B, q1, q2⟩ := hT.kind z hz; have := nk z B q1 (by rw [q2]; decide) (by rw [q2]; decide); exact hf0 z (by simp [hz]) this.1 this.2
        · intro z hz; simp only [own, List.not_mem_nil, or_false] at hz; subst hz; rw [← hfh, T.get_set, if_neg (by omega)]
        · rw [List.map_append, List.length_append]; exact hS5.move (fun z hz => by rw [← hfh, T.get_set, if_neg (by have := hO5' z hz; omega), hK6.2 z (by have := hO5 z hz; omega) (by simp), T.get_set, if_neg (by have := hO5' z hz; omega)])
        · intro i x l hx U
          rcases Nat.lt_or_ge i cs.length with q | q
          · rw [List.getElem?_append_left q] at hx; rw [List.getElem?_append_left (by omega)] at U
            have hm : x ∈ cs := List.mem_of_getElem? hx
            have hcx := hcd i x l hx U
            refine hcx.move (fun z hz => ?_)
            have hzW : z ∈ b :: pb :: (own pa ++ own ta ++ own ca ++ cs.flatMap fun x : Nat × Option Addr => x.1 :: own x.2) := by simp only [List.mem_cons, List.mem_append, List.mem_flatMap]; exact .inr (.inr (.inr ⟨x, hm, hz⟩))
            obtain ⟨_, _, _, _, _, _, _, _, q1, _, _, _, _, q2⟩ := hcx
            rcases hz with q3 | q3
            · subst q3; have := nk _ _ q1 (by dsimp only; decide) (by dsimp only; decide); exact hf0 _ hzW this.1 this.2
            · obtain ⟨B, q4, q5⟩ := q2.kind z q3; have := nk z B q4 (by rw [q5]; decide) (by rw [q5]; decide); exact hf0 z hzW this.1 this.2
          · rw [List.getElem?_append_right q] at hx; rw [List.getElem?_append_right (by omega)] at U
            have hi : i = cs.length := by rcases Nat.lt_or_ge (i - cs.length) 1 with q9 | q9; omega; rw [List.getElem?_eq_none (by simpa using q9)] at hx; cases hx
            subst hi
            simp only [Nat.sub_self, List.getElem?_cons_zero, Option.some.injEq, hlen] at hx U
            subst hx U
            exact hN4.move (fun z hz => by have q9 := hO4 z (by simpa using hz); exact hf2 z (by omega) (by omega) (fun m => by have := (hM z (by simp [m])).1; omega))
        · intro z hz
          simp only [show own none = [] from rfl, List.append_nil, List.nil_append, List.flatMap_append, List.flatMap_cons, List.flatMap_nil, List.mem_cons, List.mem_append] at hz ⊢
          rcases hz with q | q | q | (((q | q) | q) | (q | (q | q)))
          all_goals first | (left; simp [q]; done) | (right; dsimp only; omega) | (right; omega) | (right; have := hO5' z q; omega) | (right; have := hO4 z (by simp [q]); omega) | (right; have := hO5' z q; dsimp only; omega) | (right; have := hO4 z (by simp [q]); dsimp only; omega)
        · rw [← hfh]
          have k1 := ((((hK.base (c0 := c0) (by omega)).weak hsub).up (c3 := cc2 + 11) (by omega)).call hK3 (by simp)).call hK4 (by simp)
          have k2 := (k1.app2 (c3 := cc4 + 2 + 11 + 10) hF5 (fun z hz => .inr (by simp [hz])) (by omega) (by omega) (by omega))
          exact ((k2.set (nm := b) (.inr (by simp))).call hK6 (by simp)).set (nm := b) (.inr (by simp)) |>.up (by omega)
      · have hw' : whole d'.lens = false := by simpa using hw
        refine e_2 Tryz.func248 rfl (H _ (by decide)) Tryz.ntmps248 (by decide) ?_
        intro env U
        refine sg 2 J (qA U J (qA U J (nK (rS (sg 7 J (qM U J (qN U J (qF U J fa214_3 (qL U J aA ((p211.1 _ _).trans J) ?_)))))))))
        refine qM U J (qC U J (CR.mono (hH _ oA) ?_))
        rintro v ⟨hh1, cc1⟩ ⟨⟨rfl, hR2, da', hD2, hO2⟩, hK⟩
        refine qA U J (nK (sg 10 J ?_))
        have hM1 : ∀ z ∈ b :: pb :: (own pa ++ own ta ++ own ca ++ cs.flatMap fun x : Nat × Option Addr => x.1 :: own x.2), hh1.get z = h.get z := fun z hz => hK.2 z (by have := (hM z hz).1; omega) (hM z hz).2
        have hb1 := (hM1 b (by simp)).trans hb
        have hcc1 := hK.1
        dsimp only at hcc1 hD2 hR2 hO2
        refine qM U J (qB U J J J (qM U J (qG U J J J J (qM U J (qG U J J J J (qN U J (qG U J J J J (qF U J fa214_3 (qG U J J J J (qL U J aA ((p211.1 _ _).trans J) ?_))))))))))
        refine qG U J J J J (qC U J (CR.mono (deDone_cr H hD2) ?_))
        rintro v ⟨hh2, cc2⟩ ⟨rfl, rfl, hk⟩
        try dsimp only at hk
        refine qG U J J J J (q_un U J J (qQ U J J J (J) (nK (rF U rfl (by simp [hdn]) ?_))))
        refine rK (kN (sg 11 J ?_))
        have hl0 : d'.lens.length = d'.size := by simpa [De.done] using hdn
        refine qM U J (qN U J (qF U J fa214_3 (qL U J aA ((p211.1 _ _).trans J) ?_)))
        refine qC U J (CR.mono (deLens_cr H hD2 (fun z hz => by rcases hO2 z hz with q | q; (have := hcda z q; omega); omega)) ?_)
        rintro v ⟨hh3, cc3⟩ ⟨a3, cp3, rfl, hS3, hO3, hK3⟩
        refine qC U J (CR.mono (cdNewBad_cr H hS3 (fun z hz => by have := hO3 z hz; dsimp only at this; omega) oA hD2.1.2.2.2.2 hw') ?_)
        rintro v ⟨hh4, cc4⟩ ⟨rfl, hK4⟩
        refine qM U J (qE U J J (qE U J J (qA U J (qA U J (nK (rS (sg 2 J (qM U J (qB U J J J (nK (rT U rfl (by rfl) ?_)))))))))))
        refine sg 3 J (qM U J (qA U J (qA U J (nK (rR (kR (f_2 U J (.inl J) J J ?_)))))))
        have e4 : ∀ z, z < cc1 → hh4.get z = hh1.get z := fun z hz => (hK4.2 z (by have := hK3.1; dsimp only at *; omega) (by simp)).trans (hK3.2 z (by omega) (by simp))
        simp only [hdn, hw', Bool.not_true, Bool.not_false, if_true, Bool.false_eq_true, if_false]
        exact ⟨⟨rfl, by decide, fun q => absurd q (by decide), ⟨_, (e4 b (by omega)).trans hb1, rfl⟩, _, Nat.le_add_right _ _, hR2.move (e4 r (by omega))⟩, (((((hK.base (by omega)).weak hsub).up (by omega)).call hK3 (by simp)).call hK4 (by simp)).up (by omega)⟩
    · have hdn' : d'.done = false := by simpa using hdn
      simp only [hdn', Bool.not_false, if_true]
      refine e_2 Tryz.func248 rfl (H _ (by decide)) Tryz.ntmps248 (by decide) ?_
      intro env U
      refine sg 2 J (qA U J (qA U J (nK (rS (sg 7 J (qM U J (qN U J (qF U J fa214_3 (qL U J aA ((p211.1 _ _).trans J) ?_)))))))))
      refine qM U J (qC U J (CR.mono (hH _ oA) ?_))
      rintro v ⟨hh1, cc1⟩ ⟨⟨rfl, hR2, da', hD2, hO2⟩, hK⟩
      refine qA U J (nK (sg 10 J ?_))
      have hM1 : ∀ z ∈ b :: pb :: (own pa ++ own ta ++ own ca ++ cs.flatMap fun x : Nat × Option Addr => x.1 :: own x.2), hh1.get z = h.get z := fun z hz => hK.2 z (by have := (hM z hz).1; omega) (hM z hz).2
      have hb1 := (hM1 b (by simp)).trans hb
      have hcc1 := hK.1
      dsimp only at hcc1 hD2 hR2 hO2
      refine qM U J (qB U J J J (qM U J (qG U J J J J (qM U J (qG U J J J J (qN U J (qG U J J J J (qF U J fa214_3 (qG U J J J J (qL U J aA ((p211.1 _ _).trans J) ?_))))))))))
      refine qG U J J J J (qC U J (CR.mono (deDone_cr H hD2) ?_))
      rintro v ⟨hh2, cc2⟩ ⟨rfl, rfl, hk⟩
      try dsimp only at hk
      refine qG U J J J J (q_un U J J (qQ U J J J (J) (nK (rT U rfl (by simp [hdn']) ?_))))
      refine sg 3 J (qM U J (qA U J (qA U J (nK (rR (kR (f_2 U J (.inl J) J J ?_)))))))
      refine ⟨⟨rfl, hR2, _, mk d' da' _ hD2 hM1 (fun z hz => (hO2 z hz).imp id (fun q => by omega)) hsz hdn', fun z hz => ?_⟩, ((hK.base oA).weak hsub).up oA⟩
      simp only [List.mem_cons, List.mem_append] at hz ⊢
      rcases hz with q | q | q | ((((q | q) | q) | q) | q)
      any_goals (left; simp [q]; done)
      rcases hO2 z q with q2 | q2
      · left; simp [q2]
      · right; omega
end
end Go.Proofs.YtegjkhgaoabfcaaGreat
