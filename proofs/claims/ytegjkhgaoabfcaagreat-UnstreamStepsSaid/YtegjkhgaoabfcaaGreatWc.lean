/- Part 3 (a part of the proof of UnstreamSteps; no condition). -/
import Derived.KernelRfl
import Derived.Test.YtegjkhgaoabfcaaGreatProg
import Derived.Test.YtegjkhgaoabfcaaGreatWb
set_option linter.unusedSimpArgs false
set_option linter.unusedVariables false
set_option maxRecDepth 10000
namespace Go.AE
section
variable {P : Program}
def CLe (c d : CallF) : Prop := ∀ f args s r, c f args s = some r → d f args s = some r
theorem evWild_mono {c d : CallF} (h : CLe c d) {env : Env} {s : St} {nm : Nat} {op : Op} {r : Value × St} (e : evWild P c env s nm op = some r) : evWild P d env s nm op = some r := by
  unfold evWild at e ⊢
  split at e
  · exact e
  · rename_i cl
    split at e
    · rename_i args ha
      (try simp only [ha])
      split at e
      · split at e
        · rename_i hf
          (try simp only [hf])
          exact h _ _ _ _ e
        · cases e
      · exact e
      · exact e
      · cases e
    · cases e
  · cases e
theorem evStep_mono {c d : CallF} (h : CLe c d) {ops : Array Oper} {c0 i : Nat} {o : Oper} {r r' : RS} (e : evStep P c ops c0 i o r = some r') : evStep P d ops c0 i o r = some r' := by
  unfold evStep at e ⊢
  split at e
  · rename_i hw
    rw [if_pos hw]
    split at e
    · rename_i hwild
      rw [if_pos hwild]
      split at e
      · rename_i v s hv
        rw [evWild_mono h hv]; exact e
      · cases e
    · rename_i hwild
      rw [if_neg hwild]; exact e
  · rename_i hw
    rw [if_neg hw]; exact e
theorem evOps_mono {c d : CallF} (h : CLe c d) {ops : Array Oper} {c0 : Nat} : ∀ (l : List Oper) (i : Nat) (r r' : RS), evOps P c ops c0 l i r = some r' → evOps P d ops c0 l i r = some r'
  | [], _, _, _, e => e
  | o :: l, i, r, r', e => by
    simp only [evOps] at e ⊢
    split at e
    · rename_i r1 h1
      rw [evStep_mono h h1]; exact evOps_mono h l (i + 1) r1 r' e
    · cases e
theorem evRegion_mono {c d : CallF} (h : CLe c d) {ops : Array Oper} {draw : Bool} {env : Env} {s : St} {r : Env × St} (e : evRegion P c ops draw env s = some r) : evRegion P d ops draw env s = some r := by
  unfold evRegion at e ⊢
  split at e
  · rename_i r1 h1
    rw [evOps_mono h _ _ _ _ h1]; exact e
  · cases e
theorem loopN_mono {f g : Env → St → Option (AExit × Env × St)} (h : ∀ env s r, f env s = some r → g env s = some r) : ∀ (n m : Nat) (env : Env) (s : St) (r : AExit × Env × St), n ≤ m → loopN f n env s = some r → loopN g m env s = some r
  | 0, _, _, _, _, _, e => by simp [loopN] at e
  | n + 1, 0, _, _, _, hle, _ => by omega
  | n + 1, m + 1, env, s, r, hle, e => by
    simp only [loopN] at e ⊢
    split at e
    · rename_i e1 s1 h1
      rw [h _ _ _ h1]; exact loopN_mono h n m e1 s1 r (by omega) e
    · rename_i q hq
      rw [h _ _ _ e]
      obtain ⟨x, e1, s1⟩ := r
      cases x with
      | normal => exact absurd e (hq _ _)
      | exit id => rfl
      | ret => rfl
theorem evCode_mono {c d : CallF} (h : CLe c d) {n m : Nat} (hle : n ≤ m) : ∀ (co : Code) (env : Env) (s : St) (r : AExit × Env × St), evCode P c n co env s = some r → evCode P d m co env s = some r := by
  intro co
  induction co with
  | skip => intro env s r e; exact e
  | label l => intro env s r e; exact e
  | exit id => intro env s r e; exact e
  | ret => intro env s r e; exact e
  | rangeFunc f ps az b _ _ => intro env s r e; simp [evCode] at e
  | scope b _ => intro env s r e; simp [evCode] at e
  | goto l => intro env s r e; simp [evCode] at e
  | refuse y => intro env s r e; simp [evCode] at e
  | region id ops draw =>
    intro env s r e
    simp only [evCode] at e ⊢
    split at e
    · rename_i e1 s1 h1; rw [evRegion_mono h h1]; exact e
    · cases e
  | seq p q ihp ihq =>
    intro env s r e
    simp only [evCode] at e ⊢
    split at e
    · rename_i e1 s1 h1; rw [ihp _ _ _ h1]; exact ihq _ _ _ e
    · rename_i x hx
      rw [ihp _ _ _ e]
      obtain ⟨x, e1, s1⟩ := r
      cases x with
      | normal => exact absurd e (hx _ _)
      | exit id => rfl
      | ret => rfl
  | cond k p q ihp ihq =>
    intro env s r e
    simp only [evCode] at e ⊢
    split at e
    · rename_i t ht
      split at e
      · rename_i h2; rw [if_pos h2]; exact ihp _ _ _ e
      · rename_i h2; rw [if_neg h2]; exact ihq _ _ _ e
    · cases e
  | block id p ih =>
    intro env s r e
    simp only [evCode] at e ⊢
    split at e
    · rename_i j e1 s1 h1; rw [ih _ _ _ h1]; exact e
    · rename_i x hx
      rw [ih _ _ _ e]
      obtain ⟨x, e1, s1⟩ := r
      cases x with
      | normal => rfl
      | exit id => exact absurd e (hx _ _ _)
      | ret => rfl
  | loop p ih =>
    intro env s r e
    simp only [evCode] at e ⊢
    exact loopN_mono (fun env s r e => ih env s r e) n m env s r hle e
theorem evCall_mono (ov : OvT) : ∀ (n m : Nat), n ≤ m → CLe (evCall P ov n) (evCall P ov m)
  | 0, _, _ => fun f args s r e => by simp [evCall] at e
  | n + 1, 0, h => by omega
  | n + 1, m + 1, h => fun f args s r e => by
    simp only [evCall] at e ⊢
    have ih := evCall_mono ov n m (by omega)
    split at e
    · rename_i fn hf
      split at e
      · rename_i c hc
        split at e
        · exact e
        · split at e
          · cases e
          · rename_i x env s1 hx hev
            have := evCode_mono (P := P) ih (show n ≤ m by omega) c _ _ _ hev
            rw [this]
            cases x with
            | normal => exact e
            | exit id => first | exact (hx _ rfl).elim | exact (hx _ _ _ rfl).elim | exact absurd hev (hx _ _ _)
            | ret => exact e
          · cases e
      · cases e
    · cases e
variable (P) (ov : OvT)
def CR (f : FuncId) (args : List Value) (s : St) (Q : Value → St → Prop) : Prop := ∃ m v s', evCall P ov m f args s = some (v, s') ∧ Q v s'
def RC (c : Code) (env : Env) (s : St) (Q : AExit → Env → St → Prop) : Prop := ∃ m x env' s', evCode P (evCall P ov m) m c env s = some (x, env', s') ∧ Q x env' s'
def RO (ops : Array Oper) (c0 : Nat) (l : List Oper) (i : Nat) (r : RS) (Q : RS → Prop) : Prop := ∃ m r', evOps P (evCall P ov m) ops c0 l i r = some r' ∧ Q r'
end
section
variable {P : Program} {ov : OvT}
theorem CR.mono {f : FuncId} {args : List Value} {s : St} {Q Q' : Value → St → Prop} (h : CR P ov f args s Q) (k : ∀ v s', Q v s' → Q' v s') : CR P ov f args s Q' :=
  let ⟨m, v, s', e, q⟩ := h; ⟨m, v, s', e, k v s' q⟩
theorem RC.mono {c : Code} {env : Env} {s : St} {Q Q' : AExit → Env → St → Prop} (h : RC P ov c env s Q) (k : ∀ x env' s', Q x env' s' → Q' x env' s') : RC P ov c env s Q' :=
  let ⟨m, x, env', s', e, q⟩ := h; ⟨m, x, env', s', e, k x env' s' q⟩
theorem RO.mono {ops : Array Oper} {c0 : Nat} {l : List Oper} {i : Nat} {r : RS} {Q Q' : RS → Prop} (h : RO P ov ops c0 l i r Q) (k : ∀ r', Q r' → Q' r') : RO P ov ops c0 l i r Q' :=
  let ⟨m, r', e, q⟩ := h; ⟨m, r', e, k r' q⟩
def Nxt (K : Env → St → Prop) (Q : AExit → Env → St → Prop) : AExit → Env → St → Prop
  | .normal, env, s => K env s
  | x, env, s => Q x env s
@[simp] theorem Nxt_normal (K : Env → St → Prop) (Q : AExit → Env → St → Prop) (env : Env) (s : St) : Nxt K Q .normal env s = K env s := rfl
@[simp] theorem Nxt_exit (K : Env → St → Prop) (Q : AExit → Env → St → Prop) (id : Nat) (env : Env) (s : St) : Nxt K Q (.exit id) env s = Q (.exit id) env s := rfl
@[simp] theorem Nxt_ret (K : Env → St → Prop) (Q : AExit → Env → St → Prop) (env : Env) (s : St) : Nxt K Q .ret env s = Q .ret env s := rfl
def Blo (id : Nat) (Q : AExit → Env → St → Prop) : AExit → Env → St → Prop
  | .exit j, env, s => if j = id then Q .normal env s else Q (.exit j) env s
  | x, env, s => Q x env s
@[simp] theorem Blo_normal (id : Nat) (Q : AExit → Env → St → Prop) (env : Env) (s : St) : Blo id Q .normal env s = Q .normal env s := rfl
@[simp] theorem Blo_ret (id : Nat) (Q : AExit → Env → St → Prop) (env : Env) (s : St) : Blo id Q .ret env s = Q .ret env s := rfl
@[simp] theorem Blo_exit (id j : Nat) (Q : AExit → Env → St → Prop) (env : Env) (s : St) : Blo id Q (.exit j) env s = if j = id then Q .normal env s else Q (.exit j) env s := rfl
theorem RC_skip (env : Env) (s : St) (Q : AExit → Env → St → Prop) : RC P ov .skip env s Q = Q .normal env s :=
  propext ⟨fun ⟨_, _, _, _, e, q⟩ => by simp only [evCode, Option.some.injEq, Prod.mk.injEq] at e; obtain ⟨rfl, rfl, rfl⟩ := e; exact q, fun q => ⟨0, _, _, _, rfl, q⟩⟩
theorem RC_exit (id : Nat) (env : Env) (s : St) (Q : AExit → Env → St → Prop) : RC P ov (.exit id) env s Q = Q (.exit id) env s :=
  propext ⟨fun ⟨_, _, _, _, e, q⟩ => by simp only [evCode, Option.some.injEq, Prod.mk.injEq] at e; obtain ⟨rfl, rfl, rfl⟩ := e; exact q, fun q => ⟨0, _, _, _, rfl, q⟩⟩
theorem RC_ret (env : Env) (s : St) (Q : AExit → Env → St → Prop) : RC P ov .ret env s Q = Q .ret env s :=
  propext ⟨fun ⟨_, _, _, _, e, q⟩ => by simp only [evCode, Option.some.injEq, Prod.mk.injEq] at e; obtain ⟨rfl, rfl, rfl⟩ := e; exact q, fun q => ⟨0, _, _, _, rfl, q⟩⟩
theorem RC_label (l : Nat) (env : Env) (s : St) (Q : AExit → Env → St → Prop) : RC P ov (.label l) env s Q = Q .normal env s :=
  propext ⟨fun ⟨_, _, _, _, e, q⟩ => by simp only [evCode, Option.some.injEq, Prod.mk.injEq] at e; obtain ⟨rfl, rfl, rfl⟩ := e; exact q, fun q => ⟨0, _, _, _, rfl, q⟩⟩
theorem RC_seq (a b : Code) (env : Env) (s : St) (Q : AExit → Env → St → Prop) : RC P ov (.seq a b) env s Q = RC P ov a env s (Nxt (fun env s => RC P ov b env s Q) Q) := by
  apply propext
  constructor
  · rintro ⟨m, x, env', s', e, q⟩
    simp only [evCode] at e
    split at e
    · rename_i e1 s1 h1
      exact ⟨m, .normal, e1, s1, h1, m, x, env', s', e, q⟩
    · rename_i y hy
      refine ⟨m, x, env', s', e, ?_⟩
      cases x with
      | normal => exact absurd e (hy _ _)
      | exit id => exact q
      | ret => exact q
  · rintro ⟨m, x, env', s', e, q⟩
    cases x with
    | normal =>
      obtain ⟨m2, x2, e2, s2, h2, q2⟩ := q
      refine ⟨max m m2, x2, e2, s2, ?_, q2⟩
      simp only [evCode]
      rw [evCode_mono (evCall_mono ov m (max m m2) (Nat.le_max_left _ _)) (Nat.le_max_left _ _) a _ _ _ e]
      exact evCode_mono (evCall_mono ov m2 (max m m2) (Nat.le_max_right _ _)) (Nat.le_max_right _ _) b _ _ _ h2
    | exit id => exact ⟨m, .exit id, env', s', by simp only [evCode]; rw [e], q⟩
    | ret => exact ⟨m, .ret, env', s', by simp only [evCode]; rw [e], q⟩
theorem RC_cond (c : Operand) (a b : Code) (env : Env) (s : St) (Q : AExit → Env → St → Prop) (t : Bool) (h : evalO env c = some (.bool t)) :
    RC P ov (.cond c a b) env s Q = if t then RC P ov a env s Q else RC P ov b env s Q := by
  unfold RC
  simp only [evCode, h]
  cases t <;> rfl
theorem RC_block (id : Nat) (a : Code) (env : Env) (s : St) (Q : AExit → Env → St → Prop) : RC P ov (.block id a) env s Q = RC P ov a env s (Blo id Q) := by
  apply propext
  constructor
  · rintro ⟨m, x, env', s', e, q⟩
    simp only [evCode] at e
    split at e
    · rename_i j e1 s1 h1
      refine ⟨m, .exit j, e1, s1, h1, ?_⟩
      split at e
      · rename_i hj
        simp only [Option.some.injEq, Prod.mk.injEq] at e; obtain ⟨rfl, rfl, rfl⟩ := e
        simp only [Blo_exit, hj, if_true]; exact q
      · rename_i hj
        simp only [Option.some.injEq, Prod.mk.injEq] at e; obtain ⟨rfl, rfl, rfl⟩ := e
        simp only [Blo_exit, hj, if_false]; exact q
    · rename_i y hy
      refine ⟨m, x, env', s', e, ?_⟩
      cases x with
      | normal => exact q
      | exit id => exact absurd e (hy _ _ _)
      | ret => exact q
  · rintro ⟨m, x, env', s', e, q⟩
    cases x with
    | normal => exact ⟨m, .normal, env', s', by simp only [evCode]; rw [e], q⟩
    | ret => exact ⟨m, .ret, env', s', by simp only [evCode]; rw [e], q⟩
    | exit j =>
      simp only [Blo_exit] at q
      by_cases hj : j = id
      · rw [if_pos hj] at q
        exact ⟨m, .normal, env', s', by simp only [evCode]; rw [e]; simp [hj], q⟩
      · rw [if_neg hj] at q
        exact ⟨m, .exit j, env', s', by simp only [evCode]; rw [e]; simp [hj], q⟩
theorem RC_loop_step (a : Code) (env : Env) (s : St) (Q : AExit → Env → St → Prop) (h : RC P ov a env s (Nxt (fun env s => RC P ov (.loop a) env s Q) Q)) : RC P ov (.loop a) env s Q := by
  obtain ⟨m, x, env', s', e, q⟩ := h
  cases x with
  | normal =>
    obtain ⟨m2, x2, e2, s2, h2, q2⟩ := q
    simp only [evCode] at h2
    refine ⟨max m m2 + 1, x2, e2, s2, ?_, q2⟩
    simp only [evCode, loopN]
    rw [evCode_mono (evCall_mono ov m (max m m2 + 1) (by omega)) (by omega) a _ _ _ e]
    exact loopN_mono (fun env s r he => evCode_mono (evCall_mono ov m2 (max m m2 + 1) (by omega)) (by omega) a env s r he) m2 (max m m2) env' s' _ (by omega) h2
  | exit id =>
    refine ⟨m + 1, .exit id, env', s', ?_, q⟩
    simp only [evCode, loopN]
    rw [evCode_mono (evCall_mono ov m (m + 1) (by omega)) (by omega) a _ _ _ e]
  | ret =>
    refine ⟨m + 1, .ret, env', s', ?_, q⟩
    simp only [evCode, loopN]
    rw [evCode_mono (evCall_mono ov m (m + 1) (by omega)) (by omega) a _ _ _ e]
theorem RC_loop (a : Code) (env : Env) (s : St) (Q : AExit → Env → St → Prop) (I : Nat → Env → St → Prop) (n : Nat) (h0 : I n env s)
    (hr : ∀ n env s, I n env s → RC P ov a env s (Nxt (fun env' s' => ∃ k, k < n ∧ I k env' s') Q)) : RC P ov (.loop a) env s Q := by
  induction n using Nat.strongRecOn generalizing env s with
  | _ n ih =>
    refine RC_loop_step a env s Q ((hr n env s h0).mono ?_)
    intro x env' s' q
    cases x with
    | normal => obtain ⟨k, hk, hI⟩ := q; exact ih k hk env' s' hI
    | exit id => exact q
    | ret => exact q
theorem RC_region (id : Nat) (ops : Array Oper) (env : Env) (s : St) (Q : AExit → Env → St → Prop) :
    RC P ov (.region id ops false) env s Q = RO P ov ops s.ctr ops.toList 0 ⟨env, ⟨s.heap, s.ctr + ops.size⟩, [(0, s.heap)], .leaf⟩ (fun r => Q .normal r.env r.st) := by
  apply propext
  constructor
  · rintro ⟨m, x, env', s', e, q⟩
    simp only [evCode, evRegion] at e
    split at e
    · rename_i e1 s1 h1
      split at h1
      · rename_i r hr
        simp only [Bool.false_eq_true, if_false, Option.some.injEq, Prod.mk.injEq] at h1 e
        obtain ⟨rfl, rfl⟩ := h1; obtain ⟨rfl, rfl, rfl⟩ := e
        exact ⟨m, r, hr, q⟩
      · cases h1
    · cases e
  · rintro ⟨m, r, e, q⟩
    refine ⟨m, .normal, r.env, r.st, ?_, q⟩
    simp only [evCode, evRegion]
    rw [e]; rfl
theorem RC_draw (id : Nat) (ops : Array Oper) (env : Env) (s : St) (Q : AExit → Env → St → Prop) (prs : List (Nat × Nat)) (hd : drawOk ops = true) (hp : pairs ops = prs)
    (h : RO P ov ops s.ctr ops.toList 0 ⟨env, ⟨s.heap, s.ctr + ops.size⟩, [(0, s.heap)], .leaf⟩ (fun r => (∀ p ∈ prs, pairB P ops s.ctr r p = true) ∧ Q .normal r.env r.st)) : RC P ov (.region id ops true) env s Q := by
  obtain ⟨m, r, e, q1, q2⟩ := h
  refine ⟨m, .normal, r.env, r.st, ?_, q2⟩
  simp only [evCode, evRegion]
  rw [e]
  have : (drawOk ops && (pairs ops).all (pairB P ops s.ctr r)) = true := by
    rw [hd, hp, Bool.true_and, List.all_eq_true]; exact q1
  simp only [if_true, this]
theorem RO_nil (ops : Array Oper) (c0 i : Nat) (r : RS) (Q : RS → Prop) : RO P ov ops c0 [] i r Q = Q r :=
  propext ⟨fun ⟨_, _, e, q⟩ => by simp only [evOps, Option.some.injEq] at e; subst e; exact q, fun q => ⟨0, r, rfl, q⟩⟩
theorem RO_local (ops : Array Oper) (c0 : Nat) (o : Oper) (l : List Oper) (i : Nat) (r : RS) (Q : RS → Prop) (v : Value) (hg : o.guard = none) (hw : wild o.op = false) (he : evLocal P r.env r.st.heap.get (c0 + i) o.op = some (v, none))
    (h : RO P ov ops c0 l (i + 1) ⟨putA r.env o.dst v, r.st, r.snaps, r.made⟩ Q) : RO P ov ops c0 (o :: l) i r Q := by
  obtain ⟨m, r', e, q⟩ := h
  refine ⟨m, r', ?_, q⟩
  simp only [evOps, evStep, Region.wanted, hg, hw, he, if_true, Bool.false_eq_true, if_false]
  exact e
theorem RO_new (ops : Array Oper) (c0 : Nat) (o : Oper) (l : List Oper) (i : Nat) (r : RS) (Q : RS → Prop) (v : Value) (b : Blk) (hg : o.guard = none) (hw : wild o.op = false) (he : evLocal P r.env r.st.heap.get (c0 + i) o.op = some (v, some b))
    (h : RO P ov ops c0 l (i + 1) ⟨putA r.env o.dst v, ⟨r.st.heap.set (c0 + i) b, r.st.ctr⟩, r.snaps, r.made.set (c0 + i) b⟩ Q) : RO P ov ops c0 (o :: l) i r Q := by
  obtain ⟨m, r', e, q⟩ := h
  refine ⟨m, r', ?_, q⟩
  simp only [evOps, evStep, Region.wanted, hg, hw, he, if_true, Bool.false_eq_true, if_false]
  exact e
theorem RO_wild (ops : Array Oper) (c0 : Nat) (o : Oper) (l : List Oper) (i : Nat) (r : RS) (Q : RS → Prop) (v : Value) (s' : St) (hg : o.guard = none) (hw : wild o.op = true) (he : ∀ c, evWild P c r.env r.st (c0 + i) o.op = some (v, s'))
    (h : RO P ov ops c0 l (i + 1) ⟨putA r.env o.dst v, s', (i + 1, s'.heap) :: r.snaps, r.made⟩ Q) : RO P ov ops c0 (o :: l) i r Q := by
  obtain ⟨m, r', e, q⟩ := h
  refine ⟨m, r', ?_, q⟩
  simp only [evOps, evStep, Region.wanted, hg, hw, he, if_true]
  exact e
theorem RO_call (ops : Array Oper) (c0 : Nat) (dst : Option Tmp) (op : Op) (ty : TypeId) (pos : String) (after : Array Edge) (l : List Oper) (i : Nat) (r : RS) (Q : RS → Prop) (c : Call) (fo : Operand) (f : FuncId) (x y : Array Value) (args : List Value) (hop : op = .call c) (hc : c.callee = .value fo)
    (hf : evalO r.env fo = some (.func (.func f) x y)) (ha : c.args.toList.mapM (evalO r.env) = some args)
    (h : CR P ov f (x.toList ++ args ++ y.toList) r.st (fun v s' => RO P ov ops c0 l (i + 1) ⟨putA r.env dst v, s', (i + 1, s'.heap) :: r.snaps, r.made⟩ Q)) : RO P ov ops c0 (⟨dst, op, ty, pos, after, none⟩ :: l) i r Q := by
  obtain ⟨m, v, s', e, m2, r', e2, q⟩ := h
  subst hop
  refine ⟨max m m2, r', ?_, q⟩
  have hw : wild (.call c) = true := by simp [wild, hc]
  simp only [evOps, evStep, Region.wanted, hw, if_true, evWild, ha, hc, hf]
  rw [evCall_mono ov m (max m m2) (Nat.le_max_left _ _) _ _ _ _ e]
  exact evOps_mono (evCall_mono ov m2 (max m m2) (Nat.le_max_right _ _)) _ _ _ _ e2
theorem RO_skip (ops : Array Oper) (c0 : Nat) (o : Oper) (l : List Oper) (i : Nat) (r : RS) (Q : RS → Prop) (hg : Region.wanted o (yieldedA ops r.env) = false)
    (h : RO P ov ops c0 l (i + 1) ⟨putA r.env o.dst undef, r.st, if wild o.op then (i + 1, r.st.heap) :: r.snaps else r.snaps, r.made⟩ Q) : RO P ov ops c0 (o :: l) i r Q := by
  obtain ⟨m, r', e, q⟩ := h
  refine ⟨m, r', ?_, q⟩
  simp only [evOps, evStep, hg, Bool.false_eq_true, if_false]
  exact e
theorem RO_guard (ops : Array Oper) (c0 : Nat) (o : Oper) (l : List Oper) (i : Nat) (r : RS) (Q : RS → Prop) (hg : Region.wanted o (yieldedA ops r.env) = true) (h : RO P ov ops c0 ({ o with guard := none } :: l) i r Q) : RO P ov ops c0 (o :: l) i r Q := by
  obtain ⟨m, r', e, q⟩ := h
  refine ⟨m, r', ?_, q⟩
  simp only [evOps, evStep, Region.wanted, if_true] at e
  simp only [evOps, evStep, hg, if_true]
  exact e
theorem RC_fn {f : FuncId} {fn : Func} {c : Code} {args : List Value} {s : St} {Q : Value → St → Prop} (hf : P.funcs[f]? = some fn) (hb : fn.body = some c) (ho : ov f = none)
    (h : RC P ov c (args ++ List.replicate (fn.ntmps - args.length) undef) s (fun x env s' => (∀ id, x ≠ .exit id) ∧ ∃ vs, fn.results.toList.mapM (evResult P env s') = some vs ∧ Q (single vs) s')) : CR P ov f args s Q := by
  obtain ⟨m, x, env, s', e, hx, vs, hv, q⟩ := h
  refine ⟨m + 1, single vs, s', ?_, q⟩
  simp only [evCall, hf, hb, ho]
  rw [e]
  cases x with
  | normal => simp [hv]
  | ret => simp [hv]
  | exit id => exact absurd rfl (hx id)
end
theorem get?_of_getD {l : List Value} {i : Nat} (h : i < l.length) : l[i]? = some (l.getD i undef) := by
  simp [List.getD, List.getElem?_eq_getElem h]
theorem putA_some (env : Env) (d : Nat) (v : Value) : putA env (some d) v = env.set d v := rfl
theorem putA_none (env : Env) (v : Value) : putA env none v = env := rfl
section
variable {P : Program} {ov : OvT}
theorem fn1 {f : FuncId} {fn : Func} {c : Code} {n : Nat} {a : Value} {s : St} {Q : Value → St → Prop} (hf : P.funcs[f]? = some fn) (hb : fn.body = some c) (ho : ov f = none) (hn : fn.ntmps = n)
    (h : ∀ env : Env, env.length = (n - 1) + 1 → env.getD 0 undef = a → RC P ov c env s (fun x env s' => (∀ id, x ≠ .exit id) ∧ ∃ vs, fn.results.toList.mapM (evResult P env s') = some vs ∧ Q (single vs) s')) : CR P ov f [a] s Q :=
  RC_fn hf hb ho (h _ (by simp [hn]) (by simp))
theorem fn2 {f : FuncId} {fn : Func} {c : Code} {n : Nat} {a b : Value} {s : St} {Q : Value → St → Prop} (hf : P.funcs[f]? = some fn) (hb : fn.body = some c) (ho : ov f = none) (hn : fn.ntmps = n)
    (h : ∀ env : Env, env.length = (n - 2) + 2 → env.getD 0 undef = a → env.getD 1 undef = b → RC P ov c env s (fun x env s' => (∀ id, x ≠ .exit id) ∧ ∃ vs, fn.results.toList.mapM (evResult P env s') = some vs ∧ Q (single vs) s')) : CR P ov f [a, b] s Q :=
  RC_fn hf hb ho (h _ (by simp [hn]) (by simp) (by simp))
theorem fn3 {f : FuncId} {fn : Func} {cd : Code} {n : Nat} {a b c : Value} {s : St} {Q : Value → St → Prop} (hf : P.funcs[f]? = some fn) (hb : fn.body = some cd) (ho : ov f = none) (hn : fn.ntmps = n)
    (h : ∀ env : Env, env.length = (n - 3) + 3 → env.getD 0 undef = a → env.getD 1 undef = b → env.getD 2 undef = c → RC P ov cd env s (fun x env s' => (∀ id, x ≠ .exit id) ∧ ∃ vs, fn.results.toList.mapM (evResult P env s') = some vs ∧ Q (single vs) s')) : CR P ov f [a, b, c] s Q :=
  RC_fn hf hb ho (h _ (by simp [hn]) (by simp) (by simp) (by simp))
theorem fn0 {f : FuncId} {fn : Func} {c : Code} {n : Nat} {s : St} {Q : Value → St → Prop} (hf : P.funcs[f]? = some fn) (hb : fn.body = some c) (ho : ov f = none) (hn : fn.ntmps = n)
    (h : ∀ env : Env, env.length = n → RC P ov c env s (fun x env s' => (∀ id, x ≠ .exit id) ∧ ∃ vs, fn.results.toList.mapM (evResult P env s') = some vs ∧ Q (single vs) s')) : CR P ov f [] s Q :=
  RC_fn hf hb ho (h _ (by simp [hn]))
variable {ops : Array Oper} {c0 : Nat} {d : Nat} {op : Op} {ty : TypeId} {pos : String} {after : Array Edge} {l : List Oper} {i : Nat} {env : Env} {h : Heap} {c : Nat} {sn : List (Nat × Heap)} {md : Heap} {Q : RS → Prop}
theorem ro_local {v : Value} (hw : wild op = false) (he : evLocal P env h.get (c0 + i) op = some (v, none)) (k : RO P ov ops c0 l (i + 1) ⟨env.set d v, ⟨h, c⟩, sn, md⟩ Q) :
    RO P ov ops c0 (⟨some d, op, ty, pos, after, none⟩ :: l) i ⟨env, ⟨h, c⟩, sn, md⟩ Q := RO_local ops c0 _ l i _ Q v rfl hw he k
theorem ro_new {v : Value} {b : Blk} (hw : wild op = false) (he : evLocal P env h.get (c0 + i) op = some (v, some b)) (k : RO P ov ops c0 l (i + 1) ⟨env.set d v, ⟨h.set (c0 + i) b, c⟩, sn, md.set (c0 + i) b⟩ Q) :
    RO P ov ops c0 (⟨some d, op, ty, pos, after, none⟩ :: l) i ⟨env, ⟨h, c⟩, sn, md⟩ Q := RO_new ops c0 _ l i _ Q v b rfl hw he k
theorem ro_wild {v : Value} {h' : Heap} {c' : Nat} (hw : wild op = true) (he : ∀ q, evWild P q env ⟨h, c⟩ (c0 + i) op = some (v, ⟨h', c'⟩)) (k : RO P ov ops c0 l (i + 1) ⟨env.set d v, ⟨h', c'⟩, (i + 1, h') :: sn, md⟩ Q) :
    RO P ov ops c0 (⟨some d, op, ty, pos, after, none⟩ :: l) i ⟨env, ⟨h, c⟩, sn, md⟩ Q := RO_wild ops c0 _ l i _ Q v _ rfl hw he k
theorem ro_store {t : TypeId} {x y : Operand} {h' : Heap} {c' : Nat} (he : ∀ q, evWild P q env ⟨h, c⟩ (c0 + i) (.store t x y) = some (undef, ⟨h', c'⟩)) (k : RO P ov ops c0 l (i + 1) ⟨env, ⟨h', c'⟩, (i + 1, h') :: sn, md⟩ Q) :
    RO P ov ops c0 (⟨none, .store t x y, ty, pos, after, none⟩ :: l) i ⟨env, ⟨h, c⟩, sn, md⟩ Q := RO_wild ops c0 _ l i _ Q undef _ rfl rfl he k
theorem ro_call {f : FuncId} {az : Array Operand} {ts : Array TypeId} {args : List Value} (ha : az.toList.mapM (evalO env) = some args)
    (k : CR P ov f args ⟨h, c⟩ (fun v s' => RO P ov ops c0 l (i + 1) ⟨env.set d v, s', (i + 1, s'.heap) :: sn, md⟩ Q)) :
    RO P ov ops c0 (⟨some d, .call ⟨.value (.func f), az, ts⟩, ty, pos, after, none⟩ :: l) i ⟨env, ⟨h, c⟩, sn, md⟩ Q :=
  RO_call ops c0 (some d) _ ty pos after l i _ Q _ (.func f) f #[] #[] args rfl rfl rfl ha (by simpa [putA_some] using k)
theorem rc_region {id n : Nat} {K : AExit → Env → St → Prop} (hn : ops.size = n) (k : RO P ov ops c ops.toList 0 ⟨env, ⟨h, c + n⟩, [(0, h)], .leaf⟩ (fun r => K .normal r.env r.st)) : RC P ov (.region id ops false) env ⟨h, c⟩ K := by
  subst hn; rw [RC_region]; exact k
theorem rD {id n : Nat} {K : AExit → Env → St → Prop} (prs : List (Nat × Nat)) (hd : drawOk ops = true) (hp : pairs ops = prs) (hn : ops.size = n)
    (k : RO P ov ops c ops.toList 0 ⟨env, ⟨h, c + n⟩, [(0, h)], .leaf⟩ (fun r => (∀ p ∈ prs, pairB P ops c r p = true) ∧ K .normal r.env r.st)) : RC P ov (.region id ops true) env ⟨h, c⟩ K := by subst hn; exact RC_draw _ _ _ _ _ _ hd hp k
theorem rN {K : Env → St → Prop} (k : K env ⟨h, c⟩) : RO P ov ops c0 [] i ⟨env, ⟨h, c⟩, sn, md⟩ (fun r => K r.env r.st) := by rw [RO_nil]; exact k
theorem ro_nild {K : Env → St → Prop} (k : K env ⟨h, c⟩) : RO P ov ops c0 [] i ⟨env, ⟨h, c⟩, sn, md⟩ (fun r => (∀ p ∈ ([] : List (Nat × Nat)), pairB P ops c0 r p = true) ∧ K r.env r.st) := by
  rw [RO_nil]; exact ⟨fun p hp => (by cases hp), k⟩
theorem ro_skip {gd : Option (Nat × Bool)} (hw : wild op = false) (hg : Region.wanted ⟨some d, op, ty, pos, after, gd⟩ (yieldedA ops env) = false) (k : RO P ov ops c0 l (i + 1) ⟨env.set d undef, ⟨h, c⟩, sn, md⟩ Q) :
    RO P ov ops c0 (⟨some d, op, ty, pos, after, gd⟩ :: l) i ⟨env, ⟨h, c⟩, sn, md⟩ Q := RO_skip ops c0 _ l i _ Q hg (by simp only [hw, Bool.false_eq_true, if_false]; exact k)
theorem ro_guard {dst : Option Tmp} {g : Nat} {w : Bool} (hg : Region.wanted ⟨dst, op, ty, pos, after, some (g, w)⟩ (yieldedA ops env) = true) (k : RO P ov ops c0 (⟨dst, op, ty, pos, after, none⟩ :: l) i ⟨env, ⟨h, c⟩, sn, md⟩ Q) :
    RO P ov ops c0 (⟨dst, op, ty, pos, after, some (g, w)⟩ :: l) i ⟨env, ⟨h, c⟩, sn, md⟩ Q := RO_guard ops c0 _ l i _ Q hg k
theorem rc_cond {cd : Operand} {x y : Code} {s : St} {K : AExit → Env → St → Prop} {t : Bool} (hc : evalO env cd = some (.bool t)) (h1 : t = true → RC P ov x env s K) (h2 : t = false → RC P ov y env s K) : RC P ov (.cond cd x y) env s K := by
  rw [RC_cond _ _ _ _ _ _ t hc]; cases t
  · exact h2 rfl
  · exact h1 rfl
theorem rc_condT {cd : Operand} {x y : Code} {s : St} {K : AExit → Env → St → Prop} (hc : evalO env cd = some (.bool true)) (h : RC P ov x env s K) : RC P ov (.cond cd x y) env s K := by
  rw [RC_cond _ _ _ _ _ _ true hc]; exact h
theorem rc_condF {cd : Operand} {x y : Code} {s : St} {K : AExit → Env → St → Prop} (hc : evalO env cd = some (.bool false)) (h : RC P ov y env s K) : RC P ov (.cond cd x y) env s K := by
  rw [RC_cond _ _ _ _ _ _ false hc]; exact h
theorem fin {fn : Func} {x : AExit} {env : Env} {s : St} {Q : Value → St → Prop} {vs : List Value} (hx : x = .ret ∨ x = .normal) (hv : fn.results.toList.mapM (evResult P env s) = some vs) (hq : Q (single vs) s) :
    (∀ id, x ≠ .exit id) ∧ ∃ vs, fn.results.toList.mapM (evResult P env s) = some vs ∧ Q (single vs) s :=
  ⟨fun id => (by rintro rfl; rcases hx with h | h <;> cases h), vs, hv, hq⟩
end
open Go.RowKit
theorem leaf_get {α : Type} (b : Nat) : (T.leaf : T α).get b = none := T.getF_leaf _ _
def OvOK (P : Program) (ov : OvT) : Prop := ∀ f g, ov f = some g → ∀ args s v s', g args s = some (v, s') → s.ctr ≤ s'.ctr ∧ ∀ ρ w (args' : Array Value), R ρ s.heap.get w → Fr ρ s → LR ρ args args'.toList →
      Calls P f args' w fun e w' => ∃ ρ' v', e = .returned v' ∧ VR ρ' v v' ∧ Step ρ s.heap.get w ρ' s'.heap.get w' (Nw s s')
theorem plain_calls {P : Program} (hm : P.follows .mixedOrders = true) (hname : ∀ (f : Nat) (fn : Func), P.funcs[f]? = some fn → fn.body.isNone = false → (fn.name == "runtime.NumGoroutine") = false)
    {ov : OvT} (hov : OvOK P ov) {f : FuncId} {args : List Value} {Q : Value → Prop} (hp : args.all plainCell = true)
    (h : CR P ov f args ⟨.leaf, 0⟩ fun v _ => Q v ∧ plain v = true) (w : World) : Calls P f args.toArray w fun e w' => (∃ v, e = .returned v ∧ Q v) ∧ Below w.heap.size w w' := by
  obtain ⟨m, v, s', e, q, hv⟩ := h
  obtain ⟨_, _, k⟩ := sound hm hname ov hov m f args ⟨.leaf, 0⟩ v s' e
  refine (k (fun _ => none) w args.toArray ⟨fun b blk hb => ?_, fun b₁ b₂ x₁ x₂ r₁ r₂ h1 => ?_, fun b r hr => by cases hr⟩ (fun _ _ => rfl) (by simpa using LR.plain hp)).mono ?_
  · rw [leaf_get] at hb; cases hb
  · rw [leaf_get] at h1; cases h1
  · rintro e' w' ⟨ρ', v', rfl, hv', st⟩
    refine ⟨⟨v', rfl, ?_⟩, st.same.os, st.same.tape, st.same.output, st.same.size, fun B hB => st.old B hB ?_⟩
    · have : v' = v := by
        -- a plain value stands for itself alone
        have cell : ∀ {x y : Value}, plainCell x = true → VR ρ' x y → y = x := by
          intro x y hx hxy
          cases hxy with
          | bool b => rfl
          | int k n => rfl
          | str s => rfl
          | pnil => rfl
          | ptr h => simp [plainCell] at hx
          | snil => rfl
          | slice h1 h2 h3 => simp [plainCell] at hx
          | func fn hf hc h1 h2 =>
            cases fn <;> simp [plainCell] at hx
            obtain ⟨rfl, rfl⟩ := hx
            have e1 := Array.size_eq_zero_iff.1 (hf.symm.trans rfl)
            have e2 := Array.size_eq_zero_iff.1 (hc.symm.trans rfl)
            rw [e1, e2]
          | nilFunc => rfl
          | iface t h => simp [plainCell] at hx
          | nilIface => rfl
          | agg hs h => simp [plainCell] at hx
          | unit => rfl
          | tuple hs h => simp [plainCell] at hx
        cases hv' with
        | agg hs hh =>
          rename_i cs ds
          simp only [plain] at hv
          have : ds = cs := by
            apply Array.ext'
            have hL := LR.of_agg hs hh
            apply List.ext_getElem?
            intro i
            cases hx : cs.toList[i]? with
            | none =>
              have : cs.toList.length ≤ i := by simpa using hx
              rw [List.getElem?_eq_none (by rw [← hL.1]; exact this)]
            | some x =>
              obtain ⟨y, hy, hxy⟩ := hL.get? hx
              rw [hy, cell (List.all_eq_true.1 hv x (List.mem_of_getElem? hx)) hxy]
          rw [this]
        | bool b => rfl
        | int k n => rfl
        | str s => rfl
        | pnil => rfl
        | ptr h => simp [plain, plainCell] at hv
        | snil => rfl
        | slice h1 h2 h3 => simp [plain, plainCell] at hv
        | func fn hf hc h1 h2 => exact cell (by simpa [plain] using hv) (.func fn hf hc h1 h2)
        | nilFunc => rfl
        | iface t h => simp [plain, plainCell] at hv
        | nilIface => rfl
        | unit => rfl
        | tuple hs h => simp [plain, plainCell] at hv
      rw [this]; exact q
    · rintro ⟨b, blk, r, h1, _⟩; rw [leaf_get] at h1; cases h1
end Go.AE
namespace Go.Proofs.YtegjkhgaoabfcaaGreat
open Go.AE
theorem mixed : Tryz.prog.follows .mixedOrders = true := by kernel_rfl
theorem names_ok : Tryz.prog.funcs.toList.all (fun fn => fn.body.isNone || !(fn.name == "runtime.NumGoroutine")) = true := by kernel_rfl
theorem hname (f : Nat) (fn : Func) (h : Tryz.prog.funcs[f]? = some fn) (hb : fn.body.isNone = false) : (fn.name == "runtime.NumGoroutine") = false := by
  have hm : fn ∈ Tryz.prog.funcs.toList := by
    have : Tryz.prog.funcs.toList[f]? = some fn := by rw [Array.getElem?_toList]; exact h
    exact List.mem_of_getElem? this
  have := List.all_eq_true.1 names_ok fn hm
  simpa [hb] using this
@[simp] theorem i0 : Tryz.prog.info? 0 = some Tryz.t0 := by kernel_rfl
@[simp] theorem s0 : Tryz.t0.size = 1 := by kernel_rfl
@[simp] theorem b0 : Tryz.t0.bytes = 0 := by kernel_rfl
@[simp] theorem z0 : Tryz.t0.zero = some (.tuple #[]) := by kernel_rfl
@[simp] theorem i1 : Tryz.prog.info? 1 = some Tryz.t1 := by kernel_rfl
@[simp] theorem s1 : Tryz.t1.size = 1 := by kernel_rfl
@[simp] theorem b1 : Tryz.t1.bytes = 8 := by kernel_rfl
@[simp] theorem z1 : Tryz.t1.zero = some (.nilFunc) := by kernel_rfl
@[simp] theorem i2 : Tryz.prog.info? 2 = some Tryz.t2 := by kernel_rfl
@[simp] theorem s2 : Tryz.t2.size = 1 := by kernel_rfl
@[simp] theorem b2 : Tryz.t2.bytes = 8 := by kernel_rfl
@[simp] theorem z2 : Tryz.t2.zero = some (.int .i64 0) := by kernel_rfl
@[simp] theorem i3 : Tryz.prog.info? 3 = some Tryz.t3 := by kernel_rfl
@[simp] theorem s3 : Tryz.t3.size = 1 := by kernel_rfl
@[simp] theorem b3 : Tryz.t3.bytes = 8 := by kernel_rfl
@[simp] theorem z3 : Tryz.t3.zero = some (.int .i64 0) := by kernel_rfl
@[simp] theorem i4 : Tryz.prog.info? 4 = some Tryz.t4 := by kernel_rfl
@[simp] theorem s4 : Tryz.t4.size = 1 := by kernel_rfl
@[simp] theorem b4 : Tryz.t4.bytes = 1 := by kernel_rfl
@[simp] theorem z4 : Tryz.t4.zero = some (.bool false) := by kernel_rfl
@[simp] theorem i5 : Tryz.prog.info? 5 = some Tryz.t5 := by kernel_rfl
@[simp] theorem s5 : Tryz.t5.size = 1 := by kernel_rfl
@[simp] theorem b5 : Tryz.t5.bytes = 1 := by kernel_rfl
@[simp] theorem z5 : Tryz.t5.zero = some (.int .u8 0) := by kernel_rfl
@[simp] theorem i6 : Tryz.prog.info? 6 = some Tryz.t6 := by kernel_rfl
@[simp] theorem s6 : Tryz.t6.size = 1 := by kernel_rfl
@[simp] theorem b6 : Tryz.t6.bytes = 1 := by kernel_rfl
@[simp] theorem z6 : Tryz.t6.zero = some (.int .u8 0) := by kernel_rfl
@[simp] theorem i7 : Tryz.prog.info? 7 = some Tryz.t7 := by kernel_rfl
@[simp] theorem s7 : Tryz.t7.size = 4 := by kernel_rfl
@[simp] theorem b7 : Tryz.t7.bytes = 24 := by kernel_rfl
@[simp] theorem z7 : Tryz.t7.zero = some (.agg #[.int .i64 0, .int .i64 0, .bool false, .int .u8 0]) := by kernel_rfl
@[simp] theorem i8 : Tryz.prog.info? 8 = some Tryz.t8 := by kernel_rfl
@[simp] theorem s8 : Tryz.t8.size = 4 := by kernel_rfl
@[simp] theorem b8 : Tryz.t8.bytes = 24 := by kernel_rfl
@[simp] theorem z8 : Tryz.t8.zero = some (.agg #[.int .i64 0, .int .i64 0, .bool false, .int .u8 0]) := by kernel_rfl
@[simp] theorem i9 : Tryz.prog.info? 9 = some Tryz.t9 := by kernel_rfl
@[simp] theorem s9 : Tryz.t9.size = 1 := by kernel_rfl
@[simp] theorem b9 : Tryz.t9.bytes = 16 := by kernel_rfl
@[simp] theorem z9 : Tryz.t9.zero = some (.string ⟨#[]⟩) := by kernel_rfl
@[simp] theorem i15 : Tryz.prog.info? 15 = some Tryz.t15 := by kernel_rfl
@[simp] theorem s15 : Tryz.t15.size = 1 := by kernel_rfl
@[simp] theorem b15 : Tryz.t15.bytes = 8 := by kernel_rfl
@[simp] theorem z15 : Tryz.t15.zero = some (.pointer none) := by kernel_rfl
@[simp] theorem i18 : Tryz.prog.info? 18 = some Tryz.t18 := by kernel_rfl
@[simp] theorem s18 : Tryz.t18.size = 1 := by kernel_rfl
@[simp] theorem b18 : Tryz.t18.bytes = 8 := by kernel_rfl
@[simp] theorem z18 : Tryz.t18.zero = some (.agg #[.pointer none]) := by kernel_rfl
@[simp] theorem i20 : Tryz.prog.info? 20 = some Tryz.t20 := by kernel_rfl
@[simp] theorem s20 : Tryz.t20.size = 1 := by kernel_rfl
@[simp] theorem b20 : Tryz.t20.bytes = 16 := by kernel_rfl
@[simp] theorem z20 : Tryz.t20.zero = some (.nilIface) := by kernel_rfl
@[simp] theorem i23 : Tryz.prog.info? 23 = some Tryz.t23 := by kernel_rfl
@[simp] theorem s23 : Tryz.t23.size = 1 := by kernel_rfl
@[simp] theorem b23 : Tryz.t23.bytes = 8 := by kernel_rfl
@[simp] theorem z23 : Tryz.t23.zero = some (.int .i64 0) := by kernel_rfl
@[simp] theorem i24 : Tryz.prog.info? 24 = some Tryz.t24 := by kernel_rfl
@[simp] theorem s24 : Tryz.t24.size = 1 := by kernel_rfl
@[simp] theorem b24 : Tryz.t24.bytes = 0 := by kernel_rfl
@[simp] theorem z24 : Tryz.t24.zero = some (.tuple #[.string ⟨#[]⟩, .int .i64 0]) := by kernel_rfl
@[simp] theorem i28 : Tryz.prog.info? 28 = some Tryz.t28 := by kernel_rfl
@[simp] theorem s28 : Tryz.t28.size = 2 := by kernel_rfl
@[simp] theorem b28 : Tryz.t28.bytes = 24 := by kernel_rfl
@[simp] theorem z28 : Tryz.t28.zero = some (.agg #[.string ⟨#[]⟩, .int .i64 0]) := by kernel_rfl
@[simp] theorem i32 : Tryz.prog.info? 32 = some Tryz.t32 := by kernel_rfl
@[simp] theorem s32 : Tryz.t32.size = 1 := by kernel_rfl
@[simp] theorem b32 : Tryz.t32.bytes = 8 := by kernel_rfl
@[simp] theorem z32 : Tryz.t32.zero = some (.nilFunc) := by kernel_rfl
@[simp] theorem i33 : Tryz.prog.info? 33 = some Tryz.t33 := by kernel_rfl
@[simp] theorem s33 : Tryz.t33.size = 1 := by kernel_rfl
@[simp] theorem b33 : Tryz.t33.bytes = 8 := by kernel_rfl
@[simp] theorem z33 : Tryz.t33.zero = some (.pointer none) := by kernel_rfl
@[simp] theorem i34 : Tryz.prog.info? 34 = some Tryz.t34 := by kernel_rfl
@[simp] theorem s34 : Tryz.t34.size = 1 := by kernel_rfl
@[simp] theorem b34 : Tryz.t34.bytes = 0 := by kernel_rfl
@[simp] theorem z34 : Tryz.t34.zero = some (.tuple #[.pointer none, .int .i64 0]) := by kernel_rfl
@[simp] theorem i36 : Tryz.prog.info? 36 = some Tryz.t36 := by kernel_rfl
@[simp] theorem s36 : Tryz.t36.size = 1 := by kernel_rfl
@[simp] theorem b36 : Tryz.t36.bytes = 8 := by kernel_rfl
@[simp] theorem z36 : Tryz.t36.zero = some (.pointer none) := by kernel_rfl
@[simp] theorem i38 : Tryz.prog.info? 38 = some Tryz.t38 := by kernel_rfl
@[simp] theorem s38 : Tryz.t38.size = 1 := by kernel_rfl
@[simp] theorem b38 : Tryz.t38.bytes = 4 := by kernel_rfl
@[simp] theorem z38 : Tryz.t38.zero = some (.int .u32 0) := by kernel_rfl
@[simp] theorem i39 : Tryz.prog.info? 39 = some Tryz.t39 := by kernel_rfl
@[simp] theorem s39 : Tryz.t39.size = 3 := by kernel_rfl
@[simp] theorem b39 : Tryz.t39.bytes = 32 := by kernel_rfl
@[simp] theorem z39 : Tryz.t39.zero = some (.agg #[.string ⟨#[]⟩, .int .i64 0, .int .u32 0]) := by kernel_rfl
@[simp] theorem i40 : Tryz.prog.info? 40 = some Tryz.t40 := by kernel_rfl
@[simp] theorem s40 : Tryz.t40.size = 3 := by kernel_rfl
@[simp] theorem b40 : Tryz.t40.bytes = 32 := by kernel_rfl
@[simp] theorem z40 : Tryz.t40.zero = some (.agg #[.string ⟨#[]⟩, .int .i64 0, .int .u32 0]) := by kernel_rfl
@[simp] theorem i49 : Tryz.prog.info? 49 = some Tryz.t49 := by kernel_rfl
@[simp] theorem s49 : Tryz.t49.size = 3 := by kernel_rfl
@[simp] theorem b49 : Tryz.t49.bytes = 32 := by kernel_rfl
@[simp] theorem z49 : Tryz.t49.zero = some (.agg #[.string ⟨#[]⟩, .int .i64 0, .int .u32 0]) := by kernel_rfl
@[simp] theorem i50 : Tryz.prog.info? 50 = some Tryz.t50 := by kernel_rfl
@[simp] theorem s50 : Tryz.t50.size = 1 := by kernel_rfl
@[simp] theorem b50 : Tryz.t50.bytes = 8 := by kernel_rfl
@[simp] theorem z50 : Tryz.t50.zero = some (.nilFunc) := by kernel_rfl
@[simp] theorem i52 : Tryz.prog.info? 52 = some Tryz.t52 := by kernel_rfl
@[simp] theorem s52 : Tryz.t52.size = 1 := by kernel_rfl
@[simp] theorem b52 : Tryz.t52.bytes = 0 := by kernel_rfl
@[simp] theorem z52 : Tryz.t52.zero = some (.tuple #[.slice none 0 0, .int .i64 0]) := by kernel_rfl
@[simp] theorem i63 : Tryz.prog.info? 63 = some Tryz.t63 := by kernel_rfl
@[simp] theorem s63 : Tryz.t63.size = 1 := by kernel_rfl
@[simp] theorem b63 : Tryz.t63.bytes = 24 := by kernel_rfl
@[simp] theorem z63 : Tryz.t63.zero = some (.slice none 0 0) := by kernel_rfl
@[simp] theorem i64 : Tryz.prog.info? 64 = some Tryz.t64 := by kernel_rfl
@[simp] theorem s64 : Tryz.t64.size = 1 := by kernel_rfl
@[simp] theorem b64 : Tryz.t64.bytes = 8 := by kernel_rfl
@[simp] theorem z64 : Tryz.t64.zero = some (.nilFunc) := by kernel_rfl
@[simp] theorem i66 : Tryz.prog.info? 66 = some Tryz.t66 := by kernel_rfl
@[simp] theorem s66 : Tryz.t66.size = 5 := by kernel_rfl
@[simp] theorem b66 : Tryz.t66.bytes = 40 := by kernel_rfl
@[simp] theorem z66 : Tryz.t66.zero = some (.agg #[.int .i64 0, .int .i64 0, .int .i64 0, .int .i64 0, .int .i64 0]) := by kernel_rfl
@[simp] theorem i69 : Tryz.prog.info? 69 = some Tryz.t69 := by kernel_rfl
@[simp] theorem s69 : Tryz.t69.size = 3 := by kernel_rfl
@[simp] theorem b69 : Tryz.t69.bytes = 24 := by kernel_rfl
@[simp] theorem z69 : Tryz.t69.zero = some (.agg #[.int .i64 0, .int .i64 0, .int .i64 0]) := by kernel_rfl
@[simp] theorem i80 : Tryz.prog.info? 80 = some Tryz.t80 := by kernel_rfl
@[simp] theorem s80 : Tryz.t80.size = 1 := by kernel_rfl
@[simp] theorem b80 : Tryz.t80.bytes = 8 := by kernel_rfl
@[simp] theorem z80 : Tryz.t80.zero = some (.nilFunc) := by kernel_rfl
@[simp] theorem i101 : Tryz.prog.info? 101 = some Tryz.t101 := by kernel_rfl
@[simp] theorem s101 : Tryz.t101.size = 1 := by kernel_rfl
@[simp] theorem b101 : Tryz.t101.bytes = 8 := by kernel_rfl
@[simp] theorem z101 : Tryz.t101.zero = some (.pointer none) := by kernel_rfl
@[simp] theorem i102 : Tryz.prog.info? 102 = some Tryz.t102 := by kernel_rfl
@[simp] theorem s102 : Tryz.t102.size = 1 := by kernel_rfl
@[simp] theorem b102 : Tryz.t102.bytes = 24 := by kernel_rfl
@[simp] theorem z102 : Tryz.t102.zero = some (.slice none 0 0) := by kernel_rfl
@[simp] theorem i104 : Tryz.prog.info? 104 = some Tryz.t104 := by kernel_rfl
@[simp] theorem s104 : Tryz.t104.size = 2 := by kernel_rfl
@[simp] theorem b104 : Tryz.t104.bytes = 32 := by kernel_rfl
@[simp] theorem z104 : Tryz.t104.zero = some (.agg #[.pointer none, .slice none 0 0]) := by kernel_rfl
@[simp] theorem i114 : Tryz.prog.info? 114 = some Tryz.t114 := by kernel_rfl
@[simp] theorem s114 : Tryz.t114.size = 3 := by kernel_rfl
@[simp] theorem b114 : Tryz.t114.bytes = 32 := by kernel_rfl
@[simp] theorem z114 : Tryz.t114.zero = some (.agg #[.string ⟨#[]⟩, .int .i64 0, .int .i64 0]) := by kernel_rfl
@[simp] theorem i118 : Tryz.prog.info? 118 = some Tryz.t118 := by kernel_rfl
@[simp] theorem s118 : Tryz.t118.size = 1 := by kernel_rfl
@[simp] theorem b118 : Tryz.t118.bytes = 8 := by kernel_rfl
@[simp] theorem z118 : Tryz.t118.zero = some (.int .i64 0) := by kernel_rfl
@[simp] theorem i119 : Tryz.prog.info? 119 = some Tryz.t119 := by kernel_rfl
@[simp] theorem s119 : Tryz.t119.size = 1 := by kernel_rfl
@[simp] theorem b119 : Tryz.t119.bytes = 8 := by kernel_rfl
@[simp] theorem z119 : Tryz.t119.zero = some (.pointer none) := by kernel_rfl
@[simp] theorem i121 : Tryz.prog.info? 121 = some Tryz.t121 := by kernel_rfl
@[simp] theorem s121 : Tryz.t121.size = 11 := by kernel_rfl
@[simp] theorem b121 : Tryz.t121.bytes = 88 := by kernel_rfl
@[simp] theorem z121 : Tryz.t121.zero = some (.agg #[.int .i64 0, .int .i64 0, .int .i64 0, .int .i64 0, .pointer none, .string ⟨#[]⟩, .int .i64 0, .int .u32 0, .int .u32 0, .bool false, .int .i64 0]) := by kernel_rfl
@[simp] theorem i123 : Tryz.prog.info? 123 = some Tryz.t123 := by kernel_rfl
@[simp] theorem s123 : Tryz.t123.size = 3 := by kernel_rfl
@[simp] theorem b123 : Tryz.t123.bytes = 32 := by kernel_rfl
@[simp] theorem z123 : Tryz.t123.zero = some (.agg #[.string ⟨#[]⟩, .int .i64 0, .int .i64 0]) := by kernel_rfl
@[simp] theorem i147 : Tryz.prog.info? 147 = some Tryz.t147 := by kernel_rfl
@[simp] theorem s147 : Tryz.t147.size = 1 := by kernel_rfl
@[simp] theorem b147 : Tryz.t147.bytes = 8 := by kernel_rfl
@[simp] theorem z147 : Tryz.t147.zero = some (.pointer none) := by kernel_rfl
@[simp] theorem i149 : Tryz.prog.info? 149 = some Tryz.t149 := by kernel_rfl
@[simp] theorem s149 : Tryz.t149.size = 1 := by kernel_rfl
@[simp] theorem b149 : Tryz.t149.bytes = 8 := by kernel_rfl
@[simp] theorem z149 : Tryz.t149.zero = some (.pointer none) := by kernel_rfl
@[simp] theorem i156 : Tryz.prog.info? 156 = some Tryz.t156 := by kernel_rfl
@[simp] theorem s156 : Tryz.t156.size = 1 := by kernel_rfl
@[simp] theorem b156 : Tryz.t156.bytes = 8 := by kernel_rfl
@[simp] theorem z156 : Tryz.t156.zero = some (.pointer none) := by kernel_rfl
@[simp] theorem i160 : Tryz.prog.info? 160 = some Tryz.t160 := by kernel_rfl
@[simp] theorem s160 : Tryz.t160.size = 6 := by kernel_rfl
@[simp] theorem b160 : Tryz.t160.bytes = 56 := by kernel_rfl
@[simp] theorem z160 : Tryz.t160.zero = some (.agg #[.string ⟨#[]⟩, .int .i64 0, .int .u32 0, .int .i64 0, .int .i64 0, .int .i64 0]) := by kernel_rfl
@[simp] theorem i162 : Tryz.prog.info? 162 = some Tryz.t162 := by kernel_rfl
@[simp] theorem s162 : Tryz.t162.size = 1 := by kernel_rfl
@[simp] theorem b162 : Tryz.t162.bytes = 8 := by kernel_rfl
@[simp] theorem z162 : Tryz.t162.zero = some (.pointer none) := by kernel_rfl
@[simp] theorem i164 : Tryz.prog.info? 164 = some Tryz.t164 := by kernel_rfl
@[simp] theorem s164 : Tryz.t164.size = 8 := by kernel_rfl
@[simp] theorem b164 : Tryz.t164.bytes = 72 := by kernel_rfl
@[simp] theorem z164 : Tryz.t164.zero = some (.agg #[.pointer none, .int .i64 0, .bool false, .int .u32 0, .int .i64 0, .slice none 0 0, .bool false, .int .i64 0]) := by kernel_rfl
@[simp] theorem i165 : Tryz.prog.info? 165 = some Tryz.t165 := by kernel_rfl
@[simp] theorem s165 : Tryz.t165.size = 1 := by kernel_rfl
@[simp] theorem b165 : Tryz.t165.bytes = 8 := by kernel_rfl
@[simp] theorem z165 : Tryz.t165.zero = some (.pointer none) := by kernel_rfl
@[simp] theorem i166 : Tryz.prog.info? 166 = some Tryz.t166 := by kernel_rfl
@[simp] theorem s166 : Tryz.t166.size = 1 := by kernel_rfl
@[simp] theorem b166 : Tryz.t166.bytes = 8 := by kernel_rfl
@[simp] theorem z166 : Tryz.t166.zero = some (.pointer none) := by kernel_rfl
@[simp] theorem i167 : Tryz.prog.info? 167 = some Tryz.t167 := by kernel_rfl
@[simp] theorem s167 : Tryz.t167.size = 1 := by kernel_rfl
@[simp] theorem b167 : Tryz.t167.bytes = 8 := by kernel_rfl
@[simp] theorem z167 : Tryz.t167.zero = some (.pointer none) := by kernel_rfl
@[simp] theorem i169 : Tryz.prog.info? 169 = some Tryz.t169 := by kernel_rfl
@[simp] theorem s169 : Tryz.t169.size = 5 := by kernel_rfl
@[simp] theorem b169 : Tryz.t169.bytes = 40 := by kernel_rfl
@[simp] theorem z169 : Tryz.t169.zero = some (.agg #[.pointer none, .pointer none, .pointer none, .int .i64 0, .int .i64 0]) := by kernel_rfl
@[simp] theorem i171 : Tryz.prog.info? 171 = some Tryz.t171 := by kernel_rfl
@[simp] theorem s171 : Tryz.t171.size = 1 := by kernel_rfl
@[simp] theorem b171 : Tryz.t171.bytes = 24 := by kernel_rfl
@[simp] theorem z171 : Tryz.t171.zero = some (.slice none 0 0) := by kernel_rfl
@[simp] theorem i184 : Tryz.prog.info? 184 = some Tryz.t184 := by kernel_rfl
@[simp] theorem s184 : Tryz.t184.size = 256 := by kernel_rfl
@[simp] theorem b184 : Tryz.t184.bytes = 2048 := by kernel_rfl
@[simp] theorem i186 : Tryz.prog.info? 186 = some Tryz.t186 := by kernel_rfl
@[simp] theorem s186 : Tryz.t186.size = 261 := by kernel_rfl
@[simp] theorem b186 : Tryz.t186.bytes = 2128 := by kernel_rfl
@[simp] theorem i197 : Tryz.prog.info? 197 = some Tryz.t197 := by kernel_rfl
@[simp] theorem s197 : Tryz.t197.size = 1 := by kernel_rfl
@[simp] theorem b197 : Tryz.t197.bytes = 8 := by kernel_rfl
@[simp] theorem z197 : Tryz.t197.zero = some (.pointer none) := by kernel_rfl
@[simp] theorem i200 : Tryz.prog.info? 200 = some Tryz.t200 := by kernel_rfl
@[simp] theorem s200 : Tryz.t200.size = 3 := by kernel_rfl
@[simp] theorem b200 : Tryz.t200.bytes = 32 := by kernel_rfl
@[simp] theorem z200 : Tryz.t200.zero = some (.agg #[.string ⟨#[]⟩, .int .i64 0, .int .i64 0]) := by kernel_rfl
@[simp] theorem i203 : Tryz.prog.info? 203 = some Tryz.t203 := by kernel_rfl
@[simp] theorem s203 : Tryz.t203.size = 4 := by kernel_rfl
@[simp] theorem b203 : Tryz.t203.bytes = 48 := by kernel_rfl
@[simp] theorem z203 : Tryz.t203.zero = some (.agg #[.slice none 0 0, .int .i64 0, .int .i64 0, .int .i64 0]) := by kernel_rfl
@[simp] theorem i210 : Tryz.prog.info? 210 = some Tryz.t210 := by kernel_rfl
@[simp] theorem s210 : Tryz.t210.size = 1 := by kernel_rfl
@[simp] theorem b210 : Tryz.t210.bytes = 8 := by kernel_rfl
@[simp] theorem z210 : Tryz.t210.zero = some (.pointer none) := by kernel_rfl
@[simp] theorem i211 : Tryz.prog.info? 211 = some Tryz.t211 := by kernel_rfl
@[simp] theorem s211 : Tryz.t211.size = 1 := by kernel_rfl
@[simp] theorem b211 : Tryz.t211.bytes = 8 := by kernel_rfl
@[simp] theorem z211 : Tryz.t211.zero = some (.pointer none) := by kernel_rfl
@[simp] theorem i212 : Tryz.prog.info? 212 = some Tryz.t212 := by kernel_rfl
@[simp] theorem s212 : Tryz.t212.size = 1 := by kernel_rfl
@[simp] theorem b212 : Tryz.t212.bytes = 24 := by kernel_rfl
@[simp] theorem z212 : Tryz.t212.zero = some (.slice none 0 0) := by kernel_rfl
@[simp] theorem i214 : Tryz.prog.info? 214 = some Tryz.t214 := by kernel_rfl
@[simp] theorem s214 : Tryz.t214.size = 8 := by kernel_rfl
@[simp] theorem b214 : Tryz.t214.bytes = 96 := by kernel_rfl
@[simp] theorem z214 : Tryz.t214.zero = some (.agg #[.int .i64 0, .pointer none, .slice none 0 0, .pointer none, .slice none 0 0, .int .i64 0, .bool false, .int .i64 0]) := by kernel_rfl
@[simp] theorem i218 : Tryz.prog.info? 218 = some Tryz.t218 := by kernel_rfl
@[simp] theorem s218 : Tryz.t218.size = 1 := by kernel_rfl
@[simp] theorem b218 : Tryz.t218.bytes = 8 := by kernel_rfl
@[simp] theorem z218 : Tryz.t218.zero = some (.int .u64 0) := by kernel_rfl
@[simp] theorem i232 : Tryz.prog.info? 232 = some Tryz.t232 := by kernel_rfl
@[simp] theorem s232 : Tryz.t232.size = 256 := by kernel_rfl
@[simp] theorem b232 : Tryz.t232.bytes = 1024 := by kernel_rfl
@[simp] theorem i235 : Tryz.prog.info? 235 = some Tryz.t235 := by kernel_rfl
@[simp] theorem s235 : Tryz.t235.size = 257 := by kernel_rfl
@[simp] theorem b235 : Tryz.t235.bytes = 1028 := by kernel_rfl
@[simp] theorem i238 : Tryz.prog.info? 238 = some Tryz.t238 := by kernel_rfl
@[simp] theorem s238 : Tryz.t238.size = 5 := by kernel_rfl
@[simp] theorem b238 : Tryz.t238.bytes = 56 := by kernel_rfl
@[simp] theorem z238 : Tryz.t238.zero = some (.agg #[.slice none 0 0, .int .i64 0, .int .i64 0, .int .i64 0, .int .i64 0]) := by kernel_rfl
@[simp] theorem i240 : Tryz.prog.info? 240 = some Tryz.t240 := by kernel_rfl
@[simp] theorem s240 : Tryz.t240.size = 1 := by kernel_rfl
@[simp] theorem b240 : Tryz.t240.bytes = 24 := by kernel_rfl
@[simp] theorem z240 : Tryz.t240.zero = some (.slice none 0 0) := by kernel_rfl
@[simp] theorem i242 : Tryz.prog.info? 242 = some Tryz.t242 := by kernel_rfl
@[simp] theorem s242 : Tryz.t242.size = 3 := by kernel_rfl
@[simp] theorem b242 : Tryz.t242.bytes = 40 := by kernel_rfl
@[simp] theorem z242 : Tryz.t242.zero = some (.agg #[.slice none 0 0, .int .i64 0, .int .i64 0]) := by kernel_rfl
@[simp] theorem i244 : Tryz.prog.info? 244 = some Tryz.t244 := by kernel_rfl
@[simp] theorem s244 : Tryz.t244.size = 1 := by kernel_rfl
@[simp] theorem b244 : Tryz.t244.bytes = 24 := by kernel_rfl
@[simp] theorem z244 : Tryz.t244.zero = some (.slice none 0 0) := by kernel_rfl
@[simp] theorem i247 : Tryz.prog.info? 247 = some Tryz.t247 := by kernel_rfl
@[simp] theorem s247 : Tryz.t247.size = 5 := by kernel_rfl
@[simp] theorem b247 : Tryz.t247.bytes = 56 := by kernel_rfl
@[simp] theorem z247 : Tryz.t247.zero = some (.agg #[.int .i64 0, .int .i64 0, .int .i64 0, .slice none 0 0, .bool false]) := by kernel_rfl
@[simp] theorem i249 : Tryz.prog.info? 249 = some Tryz.t249 := by kernel_rfl
@[simp] theorem s249 : Tryz.t249.size = 8 := by kernel_rfl
@[simp] theorem b249 : Tryz.t249.bytes = 80 := by kernel_rfl
@[simp] theorem z249 : Tryz.t249.zero = some (.agg #[.int .i64 0, .int .i64 0, .int .i64 0, .slice none 0 0, .bool false, .int .i64 0, .int .i64 0, .int .i64 0]) := by kernel_rfl
@[simp] theorem i253 : Tryz.prog.info? 253 = some Tryz.t253 := by kernel_rfl
@[simp] theorem s253 : Tryz.t253.size = 6 := by kernel_rfl
@[simp] theorem b253 : Tryz.t253.bytes = 48 := by kernel_rfl
@[simp] theorem z253 : Tryz.t253.zero = some (.agg #[.int .i64 0, .int .i64 0, .int .i64 0, .int .i64 0, .int .i64 0, .int .i64 0]) := by kernel_rfl
@[simp] theorem i255 : Tryz.prog.info? 255 = some Tryz.t255 := by kernel_rfl
@[simp] theorem s255 : Tryz.t255.size = 10 := by kernel_rfl
@[simp] theorem b255 : Tryz.t255.bytes = 96 := by kernel_rfl
@[simp] theorem z255 : Tryz.t255.zero = some (.agg #[.int .i64 0, .int .i64 0, .int .i64 0, .int .i64 0, .int .i64 0, .int .i64 0, .int .i64 0, .int .i64 0, .slice none 0 0, .bool false]) := by kernel_rfl
@[simp] theorem i272 : Tryz.prog.info? 272 = some Tryz.t272 := by kernel_rfl
@[simp] theorem s272 : Tryz.t272.size = 3 := by kernel_rfl
@[simp] theorem b272 : Tryz.t272.bytes = 40 := by kernel_rfl
@[simp] theorem z272 : Tryz.t272.zero = some (.agg #[.slice none 0 0, .int .i64 0, .int .i64 0]) := by kernel_rfl
@[simp] theorem i305 : Tryz.prog.info? 305 = some Tryz.t305 := by kernel_rfl
@[simp] theorem s305 : Tryz.t305.size = 1 := by kernel_rfl
@[simp] theorem b305 : Tryz.t305.bytes = 24 := by kernel_rfl
@[simp] theorem z305 : Tryz.t305.zero = some (.agg #[.slice none 0 0]) := by kernel_rfl
@[simp] theorem i315 : Tryz.prog.info? 315 = some Tryz.t315 := by kernel_rfl
@[simp] theorem s315 : Tryz.t315.size = 256 := by kernel_rfl
@[simp] theorem b315 : Tryz.t315.bytes = 256 := by kernel_rfl
@[simp] theorem i322 : Tryz.prog.info? 322 = some Tryz.t322 := by kernel_rfl
@[simp] theorem s322 : Tryz.t322.size = 6 := by kernel_rfl
@[simp] theorem b322 : Tryz.t322.bytes = 48 := by kernel_rfl
@[simp] theorem z322 : Tryz.t322.zero = some (.agg #[.int .i64 0, .int .i64 0, .int .i64 0, .int .i64 0, .int .i64 0, .bool false]) := by kernel_rfl
@[simp] theorem i323 : Tryz.prog.info? 323 = some Tryz.t323 := by kernel_rfl
@[simp] theorem s323 : Tryz.t323.size = 1 := by kernel_rfl
@[simp] theorem b323 : Tryz.t323.bytes = 8 := by kernel_rfl
@[simp] theorem z323 : Tryz.t323.zero = some (.pointer none) := by kernel_rfl
@[simp] theorem i328 : Tryz.prog.info? 328 = some Tryz.t328 := by kernel_rfl
@[simp] theorem s328 : Tryz.t328.size = 4 := by kernel_rfl
@[simp] theorem b328 : Tryz.t328.bytes = 48 := by kernel_rfl
@[simp] theorem z328 : Tryz.t328.zero = some (.agg #[.int .i64 0, .int .i64 0, .slice none 0 0, .bool false]) := by kernel_rfl
@[simp] theorem i330 : Tryz.prog.info? 330 = some Tryz.t330 := by kernel_rfl
@[simp] theorem s330 : Tryz.t330.size = 21 := by kernel_rfl
@[simp] theorem b330 : Tryz.t330.bytes = 168 := by kernel_rfl
@[simp] theorem i331 : Tryz.prog.info? 331 = some Tryz.t331 := by kernel_rfl
@[simp] theorem s331 : Tryz.t331.size = 22 := by kernel_rfl
@[simp] theorem b331 : Tryz.t331.bytes = 176 := by kernel_rfl
@[simp] theorem i333 : Tryz.prog.info? 333 = some Tryz.t333 := by kernel_rfl
@[simp] theorem s333 : Tryz.t333.size = 46 := by kernel_rfl
@[simp] theorem b333 : Tryz.t333.bytes = 416 := by kernel_rfl
end Go.Proofs.YtegjkhgaoabfcaaGreat
namespace Go.AE
theorem wrapI {x : Int} (h : -9223372036854775808 ≤ x) (h' : x < 9223372036854775808) : IntKind.i64.wrap x = x := by
  unfold IntKind.wrap; simp [IntKind.signed, IntKind.bits]; omega
theorem wrapU32 {x : Int} (h : 0 ≤ x) (h' : x < 4294967296) : IntKind.u32.wrap x = x := by
  unfold IntKind.wrap; simp [IntKind.signed, IntKind.bits]; omega
theorem wrapU8 {x : Int} (h : 0 ≤ x) (h' : x < 256) : IntKind.u8.wrap x = x := by
  unfold IntKind.wrap; simp [IntKind.signed, IntKind.bits]; omega
theorem wrapU64 {x : Int} (h : 0 ≤ x) (h' : x < 18446744073709551616) : IntKind.u64.wrap x = x := by
  unfold IntKind.wrap; simp [IntKind.signed, IntKind.bits]; omega
section
variable {P : Program} {ov : OvT} {ops : Array Oper} {c0 : Nat} {d : Nat} {t s : TypeId} {ty : TypeId} {pos : String} {after : Array Edge} {l : List Oper} {i : Nat} {env : Env} {h : Heap} {c : Nat} {sn : List (Nat × Heap)} {md : Heap} {Q : RS → Prop}
end
def Keep (W : List Nat) (h : Heap) (c : Nat) (s : St) : Prop := c ≤ s.ctr ∧ ∀ x, x < c → x ∉ W → s.heap.get x = h.get x
theorem Keep.rfl' {W : List Nat} {h : Heap} {c c' : Nat} (hc : c ≤ c') : Keep W h c ⟨h, c'⟩ := ⟨hc, fun _ _ _ => rfl⟩
theorem Keep.trans {W : List Nat} {h : Heap} {c : Nat} {s s' : St} (a : Keep W h c s) (b : Keep W s.heap s.ctr s') : Keep W h c s' :=
  ⟨Nat.le_trans a.1 b.1, fun x hx hw => (b.2 x (Nat.lt_of_lt_of_le hx a.1) hw).trans (a.2 x hx hw)⟩
theorem Keep.weak {W W' : List Nat} {h : Heap} {c : Nat} {s : St} (a : Keep W h c s) (hw : ∀ x ∈ W, x ∈ W') : Keep W' h c s :=
  ⟨a.1, fun x hx hn => a.2 x hx (fun m => hn (hw x m))⟩
def byteBits (b : UInt8) : List Bool := [b.toNat.testBit 7, b.toNat.testBit 6, b.toNat.testBit 5, b.toNat.testBit 4, b.toNat.testBit 3, b.toNat.testBit 2, b.toNat.testBit 1, b.toNat.testBit 0]
def bitsL (l : List UInt8) : List Bool := l.flatMap byteBits
def num (l : List Bool) : Nat := l.foldl (fun v b => 2 * v + b.toNat) 0
theorem bitsL_length (l : List UInt8) : (bitsL l).length = 8 * l.length := by
  induction l with
  | nil => rfl
  | cons a l ih => simp only [bitsL, List.flatMap_cons, List.length_append, List.length_cons] at *; rw [ih]; simp [byteBits]; omega
theorem bitsL_get (l : List UInt8) : ∀ (i : Nat), (bitsL l)[i]? = (l[i / 8]?).map fun b => b.toNat.testBit (7 - i % 8) := by
  induction l with
  | nil => intro i; simp [bitsL]
  | cons a l ih =>
    intro i
    simp only [bitsL, List.flatMap_cons]
    by_cases h : i < 8
    · rw [List.getElem?_append_left (by simp [byteBits]; omega)]
      have h0 : i / 8 = 0 := by omega
      rw [h0]; simp only [List.getElem?_cons_zero, Option.map_some]
      have : i = 0 ∨ i = 1 ∨ i = 2 ∨ i = 3 ∨ i = 4 ∨ i = 5 ∨ i = 6 ∨ i = 7 := by omega
      rcases this with h|h|h|h|h|h|h|h <;> subst h <;> rfl
    · rw [List.getElem?_append_right (by simp [byteBits]; omega)]
      have h1 : (byteBits a).length = 8 := rfl
      rw [h1]
      have := ih (i - 8)
      rw [bitsL] at this; rw [this]
      have h2 : i / 8 = (i - 8) / 8 + 1 := by omega
      have h3 : i % 8 = (i - 8) % 8 := by omega
      rw [h2, h3]; simp
def E (env : Env) : List (Nat × Value) → Env
  | [] => env
  | (d, v) :: w => (E env w).set d v
def lk (n : Nat) : List (Nat × Value) → Nat → Option Value
  | [], _ => none
  | (d, v) :: w, j => match Nat.beq d j with
    | true => match Nat.blt d n with
      | true => some v
      | false => none
    | false => lk n w j
def lkO (n : Nat) (w : List (Nat × Value)) : Operand → Option Value
  | .tmp t => lk n w t
  | .const v => match plain v with
    | true => some v
    | false => none
  | .func f => some (.func (.func f) #[] #[])
  | .global _ => none
def lkL (n : Nat) (w : List (Nat × Value)) : List Operand → Option (List Value)
  | [] => some []
  | o :: r => match lkO n w o with
    | some v => match lkL n w r with
      | some vs => some (v :: vs)
      | none => none
    | none => none
theorem E_length (env : Env) : ∀ w, (E env w).length = env.length
  | [] => rfl
  | (d, v) :: w => by simp only [E, List.length_set]; exact E_length env w
theorem lk_get {env : Env} {n : Nat} (hl : env.length = n) : ∀ {w : List (Nat × Value)} {j : Nat} {v : Value}, lk n w j = some v → (E env w)[j]? = some v
  | [], _, _, h => by simp [lk] at h
  | (d, u) :: w, j, v, h => by
    simp only [lk] at h
    cases hb : Nat.beq d j with
    | true =>
      have e : d = j := Nat.eq_of_beq_eq_true hb
      subst e
      rw [hb] at h
      cases hn : Nat.blt d n with
      | true =>
        rw [hn] at h; simp only [Option.some.injEq] at h; subst h
        have : d < n := Nat.le_of_ble_eq_true hn
        simp only [E]; rw [List.getElem?_set]; simp [E_length, hl, this]
      | false => rw [hn] at h; cases h
    | false =>
      rw [hb] at h
      have e : d ≠ j := Nat.ne_of_beq_eq_false hb
      simp only [E]; rw [List.getElem?_set, if_neg e]; exact lk_get hl h
theorem evE {env : Env} {n : Nat} {w : List (Nat × Value)} {o : Operand} {v : Value} (hl : env.length = n) (h : lkO n w o = some v) : evalO (E env w) o = some v := by
  cases o with
  | tmp t => simp only [lkO] at h; simp only [evalO, List.getD]; rw [lk_get hl h]; rfl
  | const u => simp only [lkO] at h; simp only [evalO]; cases hp : plain u <;> rw [hp] at h <;> simp_all
  | func f => simpa [lkO, evalO] using h
  | global g => simp [lkO] at h
theorem evL {env : Env} {n : Nat} {w : List (Nat × Value)} (hl : env.length = n) : ∀ {os : List Operand} {vs : List Value}, lkL n w os = some vs → os.mapM (evalO (E env w)) = some vs
  | [], vs, h => by simp only [lkL, Option.some.injEq] at h; subst h; rfl
  | o :: r, vs, h => by
    simp only [lkL] at h
    split at h
    · rename_i v hv
      split at h
      · rename_i vs' hvs
        simp only [Option.some.injEq] at h; subst h
        rw [List.mapM_cons, evE hl hv, evL hl hvs]; rfl
      · cases h
    · cases h
def nthV : List Value → Nat → Option Value
  | [], _ => none
  | x :: _, 0 => some x
  | _ :: r, n + 1 => nthV r n
theorem nthV_get : ∀ {l : List Value} {n : Nat} {v : Value}, nthV l n = some v → l[n]? = some v
  | [], _, _, h => by cases h
  | x :: _, 0, _, h => by simpa [nthV] using h
  | _ :: r, n + 1, _, h => by simpa using nthV_get (l := r) h
def Hd (n : Nat) (w : List (Nat × Value)) (env : Env) : Prop := ∃ e : Env, e.length = n ∧ env = E e w
def looks' (n : Nat) (w : List (Nat × Value)) : List (Nat × Value) → Prop
  | [] => True
  | (d, v) :: r => lk n w d = some v ∧ looks' n w r
theorem E_same {env : Env} {n : Nat} (hl : env.length = n) {w : List (Nat × Value)} : ∀ {w' : List (Nat × Value)}, looks' n w w' → E (E env w) w' = E env w
  | [], _ => rfl
  | (d, v) :: r, h => by
    simp only [E]; rw [E_same hl h.2]
    have := lk_get hl h.1
    apply List.ext_getElem?; intro k
    rw [List.getElem?_set]; split
    · rename_i e; subst e; split
      · exact this.symm
      · rename_i hn; rw [List.getElem?_eq_none (by omega)] at this; cases this
    · rfl
theorem Ho {env : Env} {n : Nat} (hl : env.length = n) {w w' : List (Nat × Value)} (h : looks' n w w') : Hd n w' (E env w) := ⟨E env w, by rw [E_length, hl], (E_same hl h).symm⟩
def FA (P : Program) (s f off : Nat) : Prop := ∃ fields fl i, P.underlying s = some (.struct fields) ∧ fields[f]? = some fl ∧ P.info? fl.type = some i ∧ i.size ≠ 0 ∧ fl.offset = off
def P1 (P : Program) (t : TypeId) : Prop := (∀ cs off, partA P t cs off = cs[off]?) ∧ ∃ i, P.info? t = some i ∧ i.size = 1
def PN (P : Program) (t : TypeId) (n : Nat) : Prop := (∀ cs off, partA P t cs off = if off + n ≤ cs.length then some (.agg ((cs.drop off).take n).toArray) else none) ∧ ∃ i, P.info? t = some i ∧ i.size = n
def ESz (P : Program) (t e n : Nat) : Prop := P.underlying t = some (.slice e) ∧ ∃ i, P.info? e = some i ∧ i.size = n
section
variable {P : Program} {ov : OvT} {ops : Array Oper} {c0 d n : Nat} {ty : TypeId} {pos : String} {after : Array Edge} {l : List Oper} {i : Nat} {env : Env} {w : List (Nat × Value)} {h : Heap} {c : Nat} {sn : List (Nat × Heap)} {md : Heap} {Q : RS → Prop}
theorem q_loc {op : Op} {v : Value} (hw : wild op = false) (he : evLocal P (E env w) h.get (c0 + i) op = some (v, none)) (k : RO P ov ops c0 l (i + 1) ⟨E env ((d, v) :: w), ⟨h, c⟩, sn, md⟩ Q) :
    RO P ov ops c0 (⟨some d, op, ty, pos, after, none⟩ :: l) i ⟨E env w, ⟨h, c⟩, sn, md⟩ Q := ro_local hw he k
theorem q_new {op : Op} {v : Value} {b : Blk} (hw : wild op = false) (he : evLocal P (E env w) h.get (c0 + i) op = some (v, some b)) (k : RO P ov ops c0 l (i + 1) ⟨E env ((d, v) :: w), ⟨h.set (c0 + i) b, c⟩, sn, md.set (c0 + i) b⟩ Q) :
    RO P ov ops c0 (⟨some d, op, ty, pos, after, none⟩ :: l) i ⟨E env w, ⟨h, c⟩, sn, md⟩ Q := ro_new hw he k
theorem qM {x : Operand} {v : Value} (hl : env.length = n) (hx : lkO n w x = some v) (k : RO P ov ops c0 l (i + 1) ⟨E env ((d, v) :: w), ⟨h, c⟩, sn, md⟩ Q) :
    RO P ov ops c0 (⟨some d, .move x, ty, pos, after, none⟩ :: l) i ⟨E env w, ⟨h, c⟩, sn, md⟩ Q := q_loc rfl (by simp [evLocal, evE hl hx]) k
theorem qA {x : Operand} {v : Value} (hl : env.length = n) (hx : lkO n w x = some v) (k : RO P ov ops c0 l (i + 1) ⟨E env ((d, v) :: w), ⟨h, c⟩, sn, md⟩ Q) :
    RO P ov ops c0 (⟨some d, .assign x, ty, pos, after, none⟩ :: l) i ⟨E env w, ⟨h, c⟩, sn, md⟩ Q := q_loc rfl (by simp [evLocal, evE hl hx]) k
theorem qQ {x y z : Operand} {t : Bool} {va vb v : Value} (hl : env.length = n) (hx : lkO n w x = some (.bool t)) (hy : lkO n w y = some va) (hz : lkO n w z = some vb) (hv : (if t then va else vb) = v)
    (k : RO P ov ops c0 l (i + 1) ⟨E env ((d, v) :: w), ⟨h, c⟩, sn, md⟩ Q) :
    RO P ov ops c0 (⟨some d, .pick x y z, ty, pos, after, none⟩ :: l) i ⟨E env w, ⟨h, c⟩, sn, md⟩ Q := q_loc rfl (by simp [evLocal, evE hl hx, evE hl hy, evE hl hz, hv]) k
theorem qN {x : Operand} {a : Addr} (hl : env.length = n) (hx : lkO n w x = some (.pointer (some a))) (k : RO P ov ops c0 l (i + 1) ⟨E env ((d, .pointer (some a)) :: w), ⟨h, c⟩, sn, md⟩ Q) :
    RO P ov ops c0 (⟨some d, .nilCheck x, ty, pos, after, none⟩ :: l) i ⟨E env w, ⟨h, c⟩, sn, md⟩ Q := q_loc rfl (by simp [evLocal, evE hl hx]) k
theorem addr_add (b o k : Nat) : (Addr.mk b o none).add k = ⟨b, o + k, none⟩ := by
  simp only [Addr.add]; split
  · rename_i e; subst e; rfl
  · rfl
theorem qF {x : Operand} {s f off b o : Nat} (hl : env.length = n) (hx : lkO n w x = some (.pointer (some ⟨b, o, none⟩))) (hf : FA P s f off) (k : RO P ov ops c0 l (i + 1) ⟨E env ((d, .pointer (some ⟨b, o + off, none⟩)) :: w), ⟨h, c⟩, sn, md⟩ Q) :
    RO P ov ops c0 (⟨some d, .fieldAddr s x f, ty, pos, after, none⟩ :: l) i ⟨E env w, ⟨h, c⟩, sn, md⟩ Q := by
  obtain ⟨fields, fl, inf, h1, h2, h3, h4, h5⟩ := hf
  exact q_loc rfl (by simp [evLocal, evE hl hx, h1, h2, h3, h4, h5, addr_add]) k
theorem qL {x : Operand} {t b o : Nat} {blk : Blk} {v : Value} (hl : env.length = n) (hx : lkO n w x = some (.pointer (some ⟨b, o, none⟩))) (hb : h.get b = some blk) (hp : partA P t blk.cells o = some v)
    (k : RO P ov ops c0 l (i + 1) ⟨E env ((d, v) :: w), ⟨h, c⟩, sn, md⟩ Q) :
    RO P ov ops c0 (⟨some d, .load t x, ty, pos, after, none⟩ :: l) i ⟨E env w, ⟨h, c⟩, sn, md⟩ Q := q_loc rfl (by simp [evLocal, evE hl hx, hb, hp]) k
theorem qB {op : BinOp} {t s : TypeId} {x y : Operand} {vx vy v : Value} (hl : env.length = n) (hx : lkO n w x = some vx) (hy : lkO n w y = some vy) (hv : evBin P op t vx vy = some v)
    (k : RO P ov ops c0 l (i + 1) ⟨E env ((d, v) :: w), ⟨h, c⟩, sn, md⟩ Q) :
    RO P ov ops c0 (⟨some d, .binOp op t x y s, ty, pos, after, none⟩ :: l) i ⟨E env w, ⟨h, c⟩, sn, md⟩ Q := q_loc rfl (by simp [evLocal, evE hl hx, evE hl hy, hv]) k
theorem qP {k' : IntKind} {t s : TypeId} {x y : Operand} {a b m : Int} (hl : env.length = n) (hx : lkO n w x = some (.int k' a)) (hy : lkO n w y = some (.int k' b)) (hv : k'.wrap (a + b) = m)
    (k : RO P ov ops c0 l (i + 1) ⟨E env ((d, .int k' m) :: w), ⟨h, c⟩, sn, md⟩ Q) :
    RO P ov ops c0 (⟨some d, .binOp .add t x y s, ty, pos, after, none⟩ :: l) i ⟨E env w, ⟨h, c⟩, sn, md⟩ Q := qB hl hx hy (by simp [evBin, hv]) k
theorem q_sub {k' : IntKind} {t s : TypeId} {x y : Operand} {a b m : Int} (hl : env.length = n) (hx : lkO n w x = some (.int k' a)) (hy : lkO n w y = some (.int k' b)) (hv : k'.wrap (a - b) = m)
    (k : RO P ov ops c0 l (i + 1) ⟨E env ((d, .int k' m) :: w), ⟨h, c⟩, sn, md⟩ Q) :
    RO P ov ops c0 (⟨some d, .binOp .sub t x y s, ty, pos, after, none⟩ :: l) i ⟨E env w, ⟨h, c⟩, sn, md⟩ Q := qB hl hx hy (by simp [evBin, hv]) k
theorem q_mul {k' : IntKind} {t s : TypeId} {x y : Operand} {a b m : Int} (hl : env.length = n) (hx : lkO n w x = some (.int k' a)) (hy : lkO n w y = some (.int k' b)) (hv : k'.wrap (a * b) = m)
    (k : RO P ov ops c0 l (i + 1) ⟨E env ((d, .int k' m) :: w), ⟨h, c⟩, sn, md⟩ Q) :
    RO P ov ops c0 (⟨some d, .binOp .mul t x y s, ty, pos, after, none⟩ :: l) i ⟨E env w, ⟨h, c⟩, sn, md⟩ Q := qB hl hx hy (by simp [evBin, hv]) k
theorem q_quo {k' : IntKind} {t s : TypeId} {x y : Operand} {a b : Int} (hl : env.length = n) (hx : lkO n w x = some (.int k' a)) (hy : lkO n w y = some (.int k' b)) (hb : 0 ≤ a ∧ 0 < b) (hv : k'.wrap (a / b) = a / b)
    (k : RO P ov ops c0 l (i + 1) ⟨E env ((d, .int k' (a / b)) :: w), ⟨h, c⟩, sn, md⟩ Q) :
    RO P ov ops c0 (⟨some d, .binOp .quo t x y s, ty, pos, after, none⟩ :: l) i ⟨E env w, ⟨h, c⟩, sn, md⟩ Q :=
  qB hl hx hy (by
    have h1 : a.tdiv b = a / b := Int.tdiv_eq_ediv_of_nonneg hb.1
    have h4 : b ≠ 0 := by omega
    simp [evBin, h1, h4, hv]) k
theorem q_rem {k' : IntKind} {t s : TypeId} {x y : Operand} {a b : Int} (hl : env.length = n) (hx : lkO n w x = some (.int k' a)) (hy : lkO n w y = some (.int k' b)) (hb : 0 ≤ a ∧ 0 < b)
    (k : RO P ov ops c0 l (i + 1) ⟨E env ((d, .int k' (a % b)) :: w), ⟨h, c⟩, sn, md⟩ Q) :
    RO P ov ops c0 (⟨some d, .binOp .rem t x y s, ty, pos, after, none⟩ :: l) i ⟨E env w, ⟨h, c⟩, sn, md⟩ Q :=
  qB hl hx hy (by
    have h1 : a.tmod b = a % b := Int.tmod_eq_emod_of_nonneg hb.1
    have h4 : b ≠ 0 := by omega
    simp [evBin, h1, h4]) k
theorem q_un {op : UnOp} {t : TypeId} {x : Operand} {vx v : Value} (hl : env.length = n) (hx : lkO n w x = some vx) (hv : evUn op vx = some v)
    (k : RO P ov ops c0 l (i + 1) ⟨E env ((d, v) :: w), ⟨h, c⟩, sn, md⟩ Q) :
    RO P ov ops c0 (⟨some d, .unOp op t x, ty, pos, after, none⟩ :: l) i ⟨E env w, ⟨h, c⟩, sn, md⟩ Q := q_loc rfl (by simp [evLocal, evE hl hx, hv]) k
theorem qH {s t : TypeId} {k' k2 : IntKind} {ts : TypeDesc} {x : Operand} {a m : Int} (hl : env.length = n) (hx : lkO n w x = some (.int k2 a)) (hs : P.underlying s = some ts) (ht : P.underlying t = some (.int k')) (hv : k'.wrap a = m)
    (k : RO P ov ops c0 l (i + 1) ⟨E env ((d, .int k' m) :: w), ⟨h, c⟩, sn, md⟩ Q) :
    RO P ov ops c0 (⟨some d, .convert s t x, ty, pos, after, none⟩ :: l) i ⟨E env w, ⟨h, c⟩, sn, md⟩ Q := q_loc rfl (by simp [evLocal, evE hl hx, evConv, hs, ht, hv]) k
theorem qK {t : TypeId} {x : Operand} {s : ByteArray} (hl : env.length = n) (hx : lkO n w x = some (.string s)) (ht : P.underlying t = some .string)
    (k : RO P ov ops c0 l (i + 1) ⟨E env ((d, .int .i64 s.size) :: w), ⟨h, c⟩, sn, md⟩ Q) :
    RO P ov ops c0 (⟨some d, .call ⟨.builtin .len, #[x], #[t]⟩, ty, pos, after, none⟩ :: l) i ⟨E env w, ⟨h, c⟩, sn, md⟩ Q := q_loc rfl (by simp [evLocal, evE hl hx, ht]) k
theorem q_lenL {t e : TypeId} {x : Operand} {a : Option Addr} {m cp : Nat} (hl : env.length = n) (hx : lkO n w x = some (.slice a m cp)) (ht : P.underlying t = some (.slice e))
    (k : RO P ov ops c0 l (i + 1) ⟨E env ((d, .int .i64 m) :: w), ⟨h, c⟩, sn, md⟩ Q) :
    RO P ov ops c0 (⟨some d, .call ⟨.builtin .len, #[x], #[t]⟩, ty, pos, after, none⟩ :: l) i ⟨E env w, ⟨h, c⟩, sn, md⟩ Q := q_loc rfl (by simp [evLocal, evE hl hx, ht]) k
theorem qE {x : Operand} {vs : Array Value} {m : Nat} {v : Value} (hl : env.length = n) (hx : lkO n w x = some (.tuple vs)) (hv : nthV vs.toList m = some v)
    (k : RO P ov ops c0 l (i + 1) ⟨E env ((d, v) :: w), ⟨h, c⟩, sn, md⟩ Q) :
    RO P ov ops c0 (⟨some d, .extract x m, ty, pos, after, none⟩ :: l) i ⟨E env w, ⟨h, c⟩, sn, md⟩ Q := q_loc rfl (by have := nthV_get hv; rw [Array.getElem?_toList] at this; simp [evLocal, evE hl hx, this]) k
theorem qJ {t : TypeId} {x y : Operand} {s : ByteArray} {k' : IntKind} {a : Int} {b : UInt8} (hl : env.length = n) (hx : lkO n w x = some (.string s)) (hy : lkO n w y = some (.int k' a)) (ht : P.underlying t = some .string) (ha : 0 ≤ a) (hv : s[a.toNat]? = some b)
    (k : RO P ov ops c0 l (i + 1) ⟨E env ((d, .int .u8 b.toNat) :: w), ⟨h, c⟩, sn, md⟩ Q) :
    RO P ov ops c0 (⟨some d, .index t x y, ty, pos, after, none⟩ :: l) i ⟨E env w, ⟨h, c⟩, sn, md⟩ Q := q_loc rfl (by simp [evLocal, evE hl hx, evE hl hy, evIndex, ht, ha, hv]) k
theorem q_index {t : TypeId} {x y : Operand} {vx vy v : Value} (hl : env.length = n) (hx : lkO n w x = some vx) (hy : lkO n w y = some vy) (hv : evIndex P t vx vy = some v)
    (k : RO P ov ops c0 l (i + 1) ⟨E env ((d, v) :: w), ⟨h, c⟩, sn, md⟩ Q) :
    RO P ov ops c0 (⟨some d, .index t x y, ty, pos, after, none⟩ :: l) i ⟨E env w, ⟨h, c⟩, sn, md⟩ Q := q_loc rfl (by simp [evLocal, evE hl hx, evE hl hy, hv]) k
def lkP (n : Nat) (w : List (Nat × Value)) : List (Nat × Operand) → Option (List (Nat × Value))
  | [] => some []
  | (j, o) :: r => match lkO n w o with
    | some v => match lkP n w r with
      | some vs => some ((j, v) :: vs)
      | none => none
    | none => none
theorem evP {env : Env} {n : Nat} {w : List (Nat × Value)} (hl : env.length = n) : ∀ {ps : List (Nat × Operand)} {vs : List (Nat × Value)}, lkP n w ps = some vs → ps.mapM (fun p => (evalO (E env w) p.2).map fun v => (p.1, v)) = some vs
  | [], vs, h => by simp only [lkP, Option.some.injEq] at h; subst h; rfl
  | (j, o) :: r, vs, h => by
    simp only [lkP] at h
    split at h
    · rename_i v hv
      split at h
      · rename_i vs' hvs
        simp only [Option.some.injEq] at h; subst h
        rw [List.mapM_cons, evP hl hvs]; simp only [evE hl hv]; rfl
      · cases h
    · cases h
theorem qU {t : TypeId} {parts : Array (Nat × Operand)} {vs : List (Nat × Value)} {inf : TypeInfo} {z : Value} {cs : Array Value} (hl : env.length = n) (hp : lkP n w parts.toList = some vs) (hi : P.info? t = some inf) (hz : inf.zero = some z) (hpl : plain z = true) (hb : P.built t vs = some cs)
    (k : RO P ov ops c0 l (i + 1) ⟨E env ((d, .agg cs) :: w), ⟨h, c⟩, sn, md⟩ Q) :
    RO P ov ops c0 (⟨some d, .build t parts, ty, pos, after, none⟩ :: l) i ⟨E env w, ⟨h, c⟩, sn, md⟩ Q := q_loc rfl (by simp [evLocal, evP hl hp, hi, hz, hpl, hb]) k
theorem qI {t e : TypeId} {sz : Nat} {x y : Operand} {b o m cp : Nat} {k' : IntKind} {a : Int} (hl : env.length = n) (hx : lkO n w x = some (.slice (some ⟨b, o, none⟩) m cp)) (hy : lkO n w y = some (.int k' a)) (ht : ESz P t e sz) (ha : 0 ≤ a ∧ a < m)
    (k : RO P ov ops c0 l (i + 1) ⟨E env ((d, .pointer (some ⟨b, o + a.toNat * sz, none⟩)) :: w), ⟨h, c⟩, sn, md⟩ Q) :
    RO P ov ops c0 (⟨some d, .indexAddr t x y, ty, pos, after, none⟩ :: l) i ⟨E env w, ⟨h, c⟩, sn, md⟩ Q := by
  obtain ⟨h1, inf, h2, h3⟩ := ht
  exact q_loc rfl (by simp [evLocal, evE hl hx, evE hl hy, evIndexAddr, h1, h2, h3, ha.1, ha.2, addr_add]) k
theorem q_indexAddrA {t e sz len : Nat} {inf : TypeInfo} {x y : Operand} {b o : Nat} {k' : IntKind} {a : Int} (hl : env.length = n) (hx : lkO n w x = some (.pointer (some ⟨b, o, none⟩))) (hy : lkO n w y = some (.int k' a)) (ht : P.underlying t = some (.array len e)) (hi : P.info? e = some inf) (hz : inf.size = sz) (ha : 0 ≤ a ∧ a < len)
    (k : RO P ov ops c0 l (i + 1) ⟨E env ((d, .pointer (some ⟨b, o + a.toNat * sz, none⟩)) :: w), ⟨h, c⟩, sn, md⟩ Q) :
    RO P ov ops c0 (⟨some d, .indexAddr t x y, ty, pos, after, none⟩ :: l) i ⟨E env w, ⟨h, c⟩, sn, md⟩ Q :=
  q_loc rfl (by simp [evLocal, evE hl hx, evE hl hy, evIndexAddr, ht, hi, hz, ha.1, ha.2, addr_add]) k
theorem qZ {e : TypeId} {inf : TypeInfo} {z : Value} (hi : P.info? e = some inf) (hz : inf.zero = some z) (hp : plain z = true)
    (k : RO P ov ops c0 l (i + 1) ⟨E env ((d, .pointer (some ⟨c0 + i, 0, none⟩)) :: w), ⟨h.set (c0 + i) ⟨z.cells.toList, e, 0⟩, c⟩, sn, md.set (c0 + i) ⟨z.cells.toList, e, 0⟩⟩ Q) :
    RO P ov ops c0 (⟨some d, .alloc e, ty, pos, after, none⟩ :: l) i ⟨E env w, ⟨h, c⟩, sn, md⟩ Q := q_new rfl (by simp [evLocal, hi, hz, hp]) k
theorem q_box {e : TypeId} {x : Operand} {v : Value} (hl : env.length = n) (hx : lkO n w x = some v)
    (k : RO P ov ops c0 l (i + 1) ⟨E env ((d, .pointer (some ⟨c0 + i, 0, none⟩)) :: w), ⟨h.set (c0 + i) ⟨v.cells.toList, e, 0⟩, c⟩, sn, md.set (c0 + i) ⟨v.cells.toList, e, 0⟩⟩ Q) :
    RO P ov ops c0 (⟨some d, .box e x, ty, pos, after, none⟩ :: l) i ⟨E env w, ⟨h, c⟩, sn, md⟩ Q := q_new rfl (by simp [evLocal, evE hl hx]) k
theorem q_slice {t : TypeId} {x : Operand} {lo hi mx : Option Operand} {vx v : Value} (hl : env.length = n) (hx : lkO n w x = some vx) (hv : evSlice P (E env w) h.get t vx lo hi mx = some v)
    (k : RO P ov ops c0 l (i + 1) ⟨E env ((d, v) :: w), ⟨h, c⟩, sn, md⟩ Q) :
    RO P ov ops c0 (⟨some d, .slice t x lo hi mx, ty, pos, after, none⟩ :: l) i ⟨E env w, ⟨h, c⟩, sn, md⟩ Q := q_loc rfl (by simp [evLocal, evE hl hx, hv]) k
def lkB (n : Nat) (w : List (Nat × Value)) (o : Option Operand) (dflt : Int) : Option Int :=
  match o with
  | none => some dflt
  | some o => match lkO n w o with
    | some (.int _ j) => some j
    | _ => none
theorem bound_of (hl : env.length = n) {o : Option Operand} {df top : Nat} {j : Int} (h : lkB n w o df = some j) (h0 : 0 ≤ j) (h1 : j ≤ top) : bound? (E env w) o df top = some j.toNat := by
  cases o with
  | none => simp only [lkB, Option.some.injEq] at h; subst h; simp [bound?]
  | some o =>
    simp only [lkB] at h
    split at h
    · rename_i k' j' e
      simp only [Option.some.injEq] at h; subst h
      simp [bound?, evE hl e, h0, h1]
    · cases h
theorem q_sliceS {t : TypeId} {x : Operand} {lo hi : Option Operand} {s : ByteArray} {a b : Int} (hl : env.length = n) (hx : lkO n w x = some (.string s)) (ht : P.underlying t = some .string) (hb : lkB n w hi s.size = some b) (ha : lkB n w lo (0 : Nat) = some a) (hr : 0 ≤ a ∧ a ≤ b ∧ b ≤ s.size)
    (k : RO P ov ops c0 l (i + 1) ⟨E env ((d, .string (s.extract a.toNat b.toNat)) :: w), ⟨h, c⟩, sn, md⟩ Q) :
    RO P ov ops c0 (⟨some d, .slice t x lo hi none, ty, pos, after, none⟩ :: l) i ⟨E env w, ⟨h, c⟩, sn, md⟩ Q :=
  q_slice hl hx (by simp [evSlice, ht, bound_of hl hb (by omega) hr.2.2, bound_of hl ha hr.1 (show a ≤ (b.toNat : Int) by omega)]) k
theorem q_sliceL {t e sz : Nat} {x : Operand} {lo hi : Option Operand} {bk o m cp : Nat} {a b : Int} (hl : env.length = n) (hx : lkO n w x = some (.slice (some ⟨bk, o, none⟩) m cp)) (ht : ESz P t e sz) (hb : lkB n w hi m = some b) (ha : lkB n w lo (0 : Nat) = some a) (hr : 0 ≤ a ∧ a ≤ b ∧ b ≤ m)
    (hg : a = 0 ∨ (h.get bk).map (·.es) = some sz) (k : RO P ov ops c0 l (i + 1) ⟨E env ((d, .slice (some ⟨bk, o + a.toNat * sz, none⟩) (b.toNat - a.toNat) cp) :: w), ⟨h, c⟩, sn, md⟩ Q) :
    RO P ov ops c0 (⟨some d, .slice t x lo hi none, ty, pos, after, none⟩ :: l) i ⟨E env w, ⟨h, c⟩, sn, md⟩ Q := by
  obtain ⟨h1, inf, h2, h3⟩ := ht
  refine q_slice hl hx ?_ k
  have h4 : a.toNat = 0 ∨ (h.get bk).map (·.es) = some sz := hg.imp (fun e => by subst e; rfl) id
  simp only [evSlice, h1, h2, bound_of hl hb (by omega) hr.2.2, bound_of hl ha hr.1 (show a ≤ (b.toNat : Int) by omega), h3, addr_add, if_pos h4]
theorem qC {f : FuncId} {ars : Array Operand} {ts : Array TypeId} {args : List Value} (hl : env.length = n) (ha : lkL n w ars.toList = some args)
    (k : CR P ov f args ⟨h, c⟩ (fun v s' => RO P ov ops c0 l (i + 1) ⟨E env ((d, v) :: w), s', (i + 1, s'.heap) :: sn, md⟩ Q)) :
    RO P ov ops c0 (⟨some d, .call ⟨.value (.func f), ars, ts⟩, ty, pos, after, none⟩ :: l) i ⟨E env w, ⟨h, c⟩, sn, md⟩ Q := ro_call (evL hl ha) k
theorem q_callV {x : Operand} {f : FuncId} {a b : Array Value} {ars : Array Operand} {ts : Array TypeId} {args : List Value} (hl : env.length = n) (hx : lkO n w x = some (.func (.func f) a b)) (ha : lkL n w ars.toList = some args)
    (k : CR P ov f (a.toList ++ args ++ b.toList) ⟨h, c⟩ (fun v s' => RO P ov ops c0 l (i + 1) ⟨E env ((d, v) :: w), s', (i + 1, s'.heap) :: sn, md⟩ Q)) :
    RO P ov ops c0 (⟨some d, .call ⟨.value x, ars, ts⟩, ty, pos, after, none⟩ :: l) i ⟨E env w, ⟨h, c⟩, sn, md⟩ Q :=
  RO_call ops c0 (some d) _ ty pos after l i _ Q _ x f a b args rfl rfl (evE hl hx) (evL hl ha) k
theorem qW {t b o : Nat} {x y : Operand} {blk : Blk} {v : Value} (hl : env.length = n) (hx : lkO n w x = some (.pointer (some ⟨b, o, none⟩))) (hy : lkO n w y = some v) (hb : h.get b = some blk) (ht : P1 P t) (h1 : oneCell v = true) (hv : v.cells = #[v]) (ho : o < blk.cells.length)
    (k : RO P ov ops c0 l (i + 1) ⟨E env w, ⟨h.set b ⟨blk.cells.set o v, blk.elem, blk.es⟩, c⟩, (i + 1, h.set b ⟨blk.cells.set o v, blk.elem, blk.es⟩) :: sn, md⟩ Q) :
    RO P ov ops c0 (⟨none, .store t x y, ty, pos, after, none⟩ :: l) i ⟨E env w, ⟨h, c⟩, sn, md⟩ Q := by
  obtain ⟨_, inf, h2, h3⟩ := ht
  refine ro_store (fun q => ?_) k
  simp [evWild, evE hl hx, evE hl hy, hb, h2, h3, hv, setCells, h1, Nat.succ_le_of_lt ho]
theorem qV {t b o m : Nat} {x y : Operand} {blk : Blk} {v : Value} (hl : env.length = n) (hx : lkO n w x = some (.pointer (some ⟨b, o, none⟩))) (hy : lkO n w y = some v) (hb : h.get b = some blk) (ht : PN P t m) (hv : v.cells.size = m) (hc : v.cells.toList.all oneCell = true) (ho : o + m ≤ blk.cells.length)
    (k : RO P ov ops c0 l (i + 1) ⟨E env w, ⟨h.set b ⟨setCells blk.cells o v.cells.toList, blk.elem, blk.es⟩, c⟩, (i + 1, h.set b ⟨setCells blk.cells o v.cells.toList, blk.elem, blk.es⟩) :: sn, md⟩ Q) :
    RO P ov ops c0 (⟨none, .store t x y, ty, pos, after, none⟩ :: l) i ⟨E env w, ⟨h, c⟩, sn, md⟩ Q := by
  obtain ⟨_, inf, h2, h3⟩ := ht
  refine ro_store (fun q => ?_) k
  simp only [evWild, evE hl hx, evE hl hy, hb, h2, h3, hv]
  rw [if_pos ⟨by rfl, trivial, ho, hc⟩]
theorem qG {dst : Option Tmp} {op : Op} {g gd : Nat} {wv b : Bool} {og : Oper} (hl : env.length = n) (hg : ops[g]? = some og) (hd : og.dst = some gd) (hv : lk n w gd = some (.bool b)) (hb : b = wv)
    (k : RO P ov ops c0 (⟨dst, op, ty, pos, after, none⟩ :: l) i ⟨E env w, ⟨h, c⟩, sn, md⟩ Q) : RO P ov ops c0 (⟨dst, op, ty, pos, after, some (g, wv)⟩ :: l) i ⟨E env w, ⟨h, c⟩, sn, md⟩ Q :=
  ro_guard (by subst hb; simp [Region.wanted, yieldedA, hg, hd, lk_get hl hv]) k
theorem qS {op : Op} {g gd : Nat} {wv b : Bool} {og : Oper} (hl : env.length = n) (hw : wild op = false) (hg : ops[g]? = some og) (hd : og.dst = some gd) (hv : lk n w gd = some (.bool b)) (hb : b ≠ wv)
    (k : RO P ov ops c0 l (i + 1) ⟨E env ((d, undef) :: w), ⟨h, c⟩, sn, md⟩ Q) : RO P ov ops c0 (⟨some d, op, ty, pos, after, some (g, wv)⟩ :: l) i ⟨E env w, ⟨h, c⟩, sn, md⟩ Q :=
  ro_skip hw (by simp [Region.wanted, yieldedA, hg, hd, lk_get hl hv, hb]) k
theorem q_skipW {op : Op} {g gd : Nat} {wv b : Bool} {og : Oper} (hl : env.length = n) (hw : wild op = true) (hg : ops[g]? = some og) (hd : og.dst = some gd) (hv : lk n w gd = some (.bool b)) (hb : b ≠ wv)
    (k : RO P ov ops c0 l (i + 1) ⟨E env ((d, undef) :: w), ⟨h, c⟩, (i + 1, h) :: sn, md⟩ Q) : RO P ov ops c0 (⟨some d, op, ty, pos, after, some (g, wv)⟩ :: l) i ⟨E env w, ⟨h, c⟩, sn, md⟩ Q :=
  RO_skip ops c0 _ l i _ Q (by simp [Region.wanted, yieldedA, hg, hd, lk_get hl hv, hb]) (by simp only [hw, if_true]; exact k)
theorem q_case {g : Nat} {b : Bool} {l : List Oper} (hl : env.length = n) (hv : lk n w g = some (.bool b)) (k1 : b = true → RO P ov ops c0 l i ⟨E env w, ⟨h, c⟩, sn, md⟩ Q) (k2 : b = false → RO P ov ops c0 l i ⟨E env w, ⟨h, c⟩, sn, md⟩ Q) : RO P ov ops c0 l i ⟨E env w, ⟨h, c⟩, sn, md⟩ Q := by
  cases b
  · exact k2 rfl
  · exact k1 rfl
theorem same_int (k : IntKind) (a : Int) : sameV (.int k a) (.int k a) = true := by simp [sameV, sameValue]
theorem same_slice (a : Option Addr) (n c : Nat) : sameV (.slice a n c) (.slice a n c) = true := by simp [sameV, sameValue]
theorem heapAt_old {c0 n p b q : Nat} {r : RS} {h : Heap} (hs : r.snaps.find? (fun q => q.1 == p) = some (q, h)) (hb : b < c0) : heapAt c0 n r p b = h.get b := by
  simp only [heapAt, hs]; rw [if_neg (by omega)]
theorem pair_load {j p b o : Nat} {op : Oper} {t : TypeId} {x : Operand} {blk : Blk} {u v : Value} {st : St} (hl : env.length = n) (ho : ops[j]? = some op) (hop : op.op = .load t x) (hd : op.dst = some d) (hx : lkO n w x = some (.pointer (some ⟨b, o, none⟩)))
    (hg : heapAt c0 ops.size ⟨E env w, st, sn, md⟩ p b = some blk) (hp : partA P t blk.cells o = some v) (hu : lk n w d = some u) (hs : sameV u v = true) : pairB P ops c0 ⟨E env w, st, sn, md⟩ (j, p) = true := by
  simp only [pairB, ho]
  split
  · rw [hop]; simp only [evLocal, evE hl hx]
    rw [hg]; simp only [hp, Option.isNone_none, if_true, Option.map_some, hd, lk_get hl hu, hs]
  · rfl
theorem all1 {p : Nat × Nat} {F : Nat × Nat → Prop} (h : F p) : ∀ q ∈ [p], F q := by intro q hq; simp at hq; subst hq; exact h
variable {K K' : AExit → Env → St → Prop} {Kn : Env → St → Prop} {s : St} {en : Env} {x : AExit}
theorem rS {a b : Code} (k : RC P ov a en s (Nxt (fun env s => RC P ov b env s K) K)) : RC P ov (.seq a b) en s K := by rw [RC_seq]; exact k
theorem rB {id : Nat} {a : Code} (k : RC P ov a en s (Blo id K)) : RC P ov (.block id a) en s K := by rw [RC_block]; exact k
theorem rK (k : K .normal en s) : RC P ov .skip en s K := by rw [RC_skip]; exact k
theorem r_exit {id : Nat} (k : K (.exit id) en s) : RC P ov (.exit id) en s K := by rw [RC_exit]; exact k
theorem rR (k : K .ret en s) : RC P ov .ret en s K := by rw [RC_ret]; exact k
theorem rC {a b : Code} {o : Operand} {t : Bool} (hl : env.length = n) (hc : lkO n w o = some (.bool t)) (h1 : t = true → RC P ov a (E env w) s K) (h2 : t = false → RC P ov b (E env w) s K) : RC P ov (.cond o a b) (E env w) s K := rc_cond (evE hl hc) h1 h2
theorem rT {a b : Code} {o : Operand} {t : Bool} (hl : env.length = n) (hc : lkO n w o = some (.bool t)) (ht : t = true) (h1 : RC P ov a (E env w) s K) : RC P ov (.cond o a b) (E env w) s K := by subst ht; exact rc_condT (evE hl hc) h1
theorem rF {a b : Code} {o : Operand} {t : Bool} (hl : env.length = n) (hc : lkO n w o = some (.bool t)) (ht : t = false) (h1 : RC P ov b (E env w) s K) : RC P ov (.cond o a b) (E env w) s K := by subst ht; exact rc_condF (evE hl hc) h1
theorem kN (k : Kn en s) : Nxt Kn K .normal en s := k
theorem kE {id : Nat} (k : K (.exit id) en s) : Nxt Kn K (.exit id) en s := k
theorem kR (k : K .ret en s) : Nxt Kn K .ret en s := k
theorem kO {id : Nat} (k : K .normal en s) : Blo id K .normal en s := k
theorem kB {id : Nat} (k : K .normal en s) : Blo id K (.exit id) en s := by rw [Blo_exit, if_pos rfl]; exact k
theorem k_bloN {id j : Nat} (hj : Nat.beq j id = false) (k : K (.exit j) en s) : Blo id K (.exit j) en s := by rw [Blo_exit, if_neg (Nat.ne_of_beq_eq_false hj)]; exact k
theorem k_bloR {id : Nat} (k : K .ret en s) : Blo id K .ret en s := k
theorem rL {a : Code} (I : Nat → Env → St → Prop) (m : Nat) (h0 : I m en s) (hr : ∀ m env s, I m env s → RC P ov a env s (Nxt (fun env' s' => ∃ k, k < m ∧ I k env' s') K)) : RC P ov (.loop a) en s K := RC_loop a en s K I m h0 hr
def Fin (P : Program) (fn : Func) (Q : Value → St → Prop) (x : AExit) (env : Env) (s' : St) : Prop := (∀ id, x ≠ .exit id) ∧ ∃ vs, fn.results.toList.mapM (evResult P env s') = some vs ∧ Q (single vs) s'
variable {fn : Func} {Qv : Value → St → Prop} {st : St}
theorem f_1 {a : Nat} {v : Value} (hl : env.length = n) (hr : fn.results = #[.tmp a]) (hx : x = .ret ∨ x = .normal) (hv : lk n w a = some v) (hq : Qv v st) :
    Fin P fn Qv x (E env w) st :=
  fin (vs := [v]) hx (by rw [hr]; simp [evResult, List.getD, lk_get hl hv]) hq
theorem f_2 {a b : Nat} {v u : Value} (hl : env.length = n) (hr : fn.results = #[.tmp a, .tmp b]) (hx : x = .ret ∨ x = .normal) (hv : lk n w a = some v) (hu : lk n w b = some u) (hq : Qv (.tuple #[v, u]) st) :
    Fin P fn Qv x (E env w) st :=
  fin (vs := [v, u]) hx (by rw [hr]; simp [evResult, List.getD, lk_get hl hv, lk_get hl hu]) hq
theorem f_3 {a b e : Nat} {v u z : Value} (hl : env.length = n) (hr : fn.results = #[.tmp a, .tmp b, .tmp e]) (hx : x = .ret ∨ x = .normal) (hv : lk n w a = some v) (hu : lk n w b = some u) (hz : lk n w e = some z) (hq : Qv (.tuple #[v, u, z]) st) :
    Fin P fn Qv x (E env w) st :=
  fin (vs := [v, u, z]) hx (by rw [hr]; simp [evResult, List.getD, lk_get hl hv, lk_get hl hu, lk_get hl hz]) hq
theorem f_0 (hr : fn.results = #[]) (hx : x = .ret ∨ x = .normal) (hq : Qv (single []) st) :
    Fin P fn Qv x (E env w) st :=
  fin (vs := []) hx (by rw [hr]; rfl) hq
variable {f : FuncId} {cd : Code} {Qf : Value → St → Prop}
theorem e_0 (hf : P.funcs[f]? = some fn) (hb : fn.body = some cd) (ho : ov f = none) (hn : fn.ntmps = n)
    (k : ∀ env : Env, env.length = n → RC P ov cd (E env []) s (Fin P fn Qf)) : CR P ov f [] s Qf := fn0 hf hb ho hn k
theorem E_par {e : Env} {j : Nat} {a : Value} {w : List (Nat × Value)} (hj : j < (E e w).length) (h : (E e w).getD j undef = a) : E e ((j, a) :: w) = E e w := by
  simp only [E]; subst h
  apply List.ext_getElem?; intro k
  rw [List.getElem?_set]; split
  · rename_i q; subst q; exact (get?_of_getD hj).symm
  · rfl
theorem e_1 {a : Value} (hf : P.funcs[f]? = some fn) (hb : fn.body = some cd) (ho : ov f = none) (hn : fn.ntmps = n) (hp : 1 ≤ n)
    (k : ∀ env : Env, env.length = n → RC P ov cd (E env [(0, a)]) s (Fin P fn Qf)) : CR P ov f [a] s Qf :=
  fn1 hf hb ho hn (fun env hl h0 => by
    have hl' : env.length = n := by omega
    have := k env hl'; rw [E_par (w := []) (by simp [E]; omega) h0] at this; exact this)
theorem e_2 {a b : Value} (hf : P.funcs[f]? = some fn) (hb : fn.body = some cd) (ho : ov f = none) (hn : fn.ntmps = n) (hp : 2 ≤ n)
    (k : ∀ env : Env, env.length = n → RC P ov cd (E env [(1, b), (0, a)]) s (Fin P fn Qf)) : CR P ov f [a, b] s Qf :=
  fn2 hf hb ho hn (fun env hl h0 h1 => by
    have hl' : env.length = n := by omega
    have := k env hl'
    have e0 : E env [(0, a)] = E env [] := E_par (by simp [E]; omega) h0
    have e1 : E env [(1, b), (0, a)] = E env [(0, a)] := E_par (by rw [e0]; simp [E]; omega) (by rw [e0]; exact h1)
    rw [e1, e0] at this; exact this)
theorem e_3 {a b e : Value} (hf : P.funcs[f]? = some fn) (hb : fn.body = some cd) (ho : ov f = none) (hn : fn.ntmps = n) (hp : 3 ≤ n)
    (k : ∀ env : Env, env.length = n → RC P ov cd (E env [(2, e), (1, b), (0, a)]) s (Fin P fn Qf)) : CR P ov f [a, b, e] s Qf :=
  fn3 hf hb ho hn (fun env hl h0 h1 h2 => by
    have hl' : env.length = n := by omega
    have := k env hl'
    have e0 : E env [(0, a)] = E env [] := E_par (by simp [E]; omega) h0
    have e1 : E env [(1, b), (0, a)] = E env [(0, a)] := E_par (by rw [e0]; simp [E]; omega) (by rw [e0]; exact h1)
    have e2 : E env [(2, e), (1, b), (0, a)] = E env [(1, b), (0, a)] := E_par (by rw [e1, e0]; simp [E]; omega) (by rw [e1, e0]; exact h2)
    rw [e2, e1, e0] at this; exact this)
end
def own (a : Option Addr) : List Nat := match a with | some a => [a.block] | none => []
def SlR (e sz : Nat) (cs : List Value) (a : Option Addr) (n cp : Nat) (g : Nat → Option Blk) : Prop :=
  (cs = [] ∧ a = none ∧ n = 0 ∧ cp = 0) ∨ (∃ b, a = some ⟨b, 0, none⟩ ∧ cp = 1 ∧ g b = some ⟨cs, e, sz⟩ ∧ cs.length = n * sz ∧ 0 < n)
def EA (P : Program) (t e sz by_ : Nat) : Prop := P.underlying t = some (.slice e) ∧ ∃ inf z, P.info? e = some inf ∧ inf.size = sz ∧ inf.bytes = by_ ∧ inf.zero = some z ∧ plain z = true ∧ z.cells.size = sz ∧ sz ≠ 0
theorem SlR.nil {e sz : Nat} {g : Nat → Option Blk} : SlR e sz [] none 0 0 g := .inl ⟨rfl, rfl, rfl, rfl⟩
theorem SlR.len {e sz n cp : Nat} {cs : List Value} {a : Option Addr} {g : Nat → Option Blk} (h : SlR e sz cs a n cp g) : cs.length = n * sz := by
  rcases h with ⟨rfl, _, rfl, _⟩ | ⟨b, _, _, _, h, _⟩
  · simp
  · exact h
theorem SlR.pos {e sz n cp : Nat} {cs : List Value} {a : Option Addr} {g : Nat → Option Blk} (h : SlR e sz cs a n cp g) (hn : 0 < n) : ∃ b, a = some ⟨b, 0, none⟩ ∧ cp = 1 ∧ g b = some ⟨cs, e, sz⟩ := by
  rcases h with ⟨_, _, rfl, _⟩ | ⟨b, h1, h2, h3, _, _⟩
  · omega
  · exact ⟨b, h1, h2, h3⟩
theorem SlR.move {e sz n cp : Nat} {cs : List Value} {a : Option Addr} {g g' : Nat → Option Blk} (h : SlR e sz cs a n cp g) (hg : ∀ b ∈ own a, g' b = g b) : SlR e sz cs a n cp g' := by
  rcases h with h | ⟨b, h1, h2, h3, h4, h5⟩
  · exact .inl h
  · exact .inr ⟨b, h1, h2, (hg b (by subst h1; simp [own])).trans h3, h4, h5⟩
theorem Keep.app {W : List Nat} {h h2 h3 : Heap} {c c2 c3 nm nm0 : Nat} {a : Option Addr} {B : Blk} (k : Keep W h c ⟨h2, c2⟩) (hF : ∀ z, z ≠ nm → z ∉ own a → h3.get z = (h2.set nm0 B).get z) (hO : ∀ z ∈ own a, c ≤ z ∨ z ∈ W) (h1 : c2 ≤ nm) (h0 : c2 ≤ nm0) (hc : c2 ≤ c3) : Keep W h c ⟨h3, c3⟩ :=
  ⟨Nat.le_trans k.1 hc, fun x hx hw => by
    have hk := k.1; dsimp only at hk
    rw [hF x (by omega) (fun m => by rcases hO x m with q | q; omega; exact hw q), T.get_set, if_neg (by omega)]; exact k.2 x hx hw⟩
theorem Keep.up {W : List Nat} {h h2 : Heap} {c c2 c3 : Nat} (k : Keep W h c ⟨h2, c2⟩) (hc : c2 ≤ c3) : Keep W h c ⟨h2, c3⟩ := ⟨Nat.le_trans k.1 hc, k.2⟩
theorem Keep.set {W : List Nat} {h h2 : Heap} {c c2 nm : Nat} {B : Blk} (k : Keep W h c ⟨h2, c2⟩) (hn : c ≤ nm ∨ nm ∈ W) : Keep W h c ⟨h2.set nm B, c2⟩ :=
  ⟨k.1, fun x hx hw => by
    show (h2.set nm B).get x = _
    rw [T.get_set, if_neg (fun e => by rcases hn with q | q; omega; exact hw (e ▸ q))]; exact k.2 x hx hw⟩
theorem Keep.call {W W' : List Nat} {h h2 : Heap} {c c2 : Nat} {s : St} (k : Keep W h c ⟨h2, c2⟩) (k' : Keep W' h2 c2 s) (hw : ∀ x ∈ W', c ≤ x ∨ x ∈ W) : Keep W h c s :=
  ⟨Nat.le_trans k.1 k'.1, fun x hx hn => by
    have hk := k.1; dsimp only at hk
    rw [k'.2 x (by omega) (fun m => by rcases hw x m with q | q; omega; exact hn q)]; exact k.2 x hx hn⟩
theorem Keep.refl {W : List Nat} {h : Heap} {c c' : Nat} (hc : c ≤ c') : Keep W h c ⟨h, c'⟩ := ⟨hc, fun _ _ _ => rfl⟩
section
variable {P : Program} {ov : OvT} {ops : Array Oper} {c0 d n : Nat} {ty : TypeId} {pos : String} {after : Array Edge} {l : List Oper} {i : Nat} {env : Env} {w : List (Nat × Value)} {h : Heap} {c : Nat} {sn : List (Nat × Heap)} {md : Heap} {Q : RS → Prop}
theorem ro_nilp {prs : List (Nat × Nat)} {K : Env → St → Prop} (hp : ∀ p ∈ prs, pairB P ops c0 ⟨env, ⟨h, c⟩, sn, md⟩ p = true) (k : K env ⟨h, c⟩) : RO P ov ops c0 [] i ⟨env, ⟨h, c⟩, sn, md⟩ (fun r => (∀ p ∈ prs, pairB P ops c0 r p = true) ∧ K r.env r.st) := by
  rw [RO_nil]; exact ⟨hp, k⟩
theorem q1_ {t e by_ : Nat} {o : Operand} {v : Value} (hl : env.length = n) (hx : lkO n w o = some v) (ht : EA P t e 1 by_) (hv : v.cells = #[v])
    (k : RO P ov ops c0 l (i + 1) ⟨E env ((d, .slice (some ⟨c0 + i, 0, none⟩) 1 1) :: w), ⟨h.set (c0 + i) ⟨[v], e, 1⟩, c⟩, sn, md.set (c0 + i) ⟨[v], e, 1⟩⟩ Q) :
    RO P ov ops c0 (⟨some d, .buildSlice t 1 #[(0, o)], ty, pos, after, none⟩ :: l) i ⟨E env w, ⟨h, c⟩, sn, md⟩ Q := by
  obtain ⟨h1, inf, z, h2, h3, h4, h5, h6, h7, h8⟩ := ht
  refine q_new rfl ?_ k
  have hz : z.cells.toList.length = 1 := by simpa using h7
  have hz2 : ∃ u, z.cells = #[u] := by
    obtain ⟨u, hu⟩ := List.length_eq_one_iff.mp hz
    exact ⟨u, by apply Array.ext'; simpa using hu⟩
  obtain ⟨u, hu⟩ := hz2
  simp [evLocal, h1, h2, h3, h5, h6, evE hl hx, zerosOf, Instr.fill, hv, hu]
theorem q_append {tx tyy e sz by_ m nx cp : Nat} {x y : Operand} {vy : Value} {a : Option Addr} {cs new : List Value} (hl : env.length = n) (hx : lkO n w x = some (.slice a nx cp)) (hy : lkO n w y = some vy) (ht : EA P tx e sz by_)
    (hs : SlR e sz cs a nx cp h.get) (hsrc : srcCells P (some tyy) h vy sz = some (m, new)) (hnew : new.length = m * sz) (hb : (nx + m) * by_ ≤ 140737488355328) (hm : nx + m ≤ 4611686018427387904)
    (k : ∀ a' cp' h', SlR e sz (cs ++ new) a' (nx + m) cp' h'.get → (∀ z ∈ own a', z = c0 + i) → (∀ z, z ≠ c0 + i → z ∉ own a → h'.get z = h.get z) → RO P ov ops c0 l (i + 1) ⟨E env ((d, .slice a' (nx + m) cp') :: w), ⟨h', c⟩, (i + 1, h') :: sn, md⟩ Q) :
    RO P ov ops c0 (⟨some d, .call ⟨.builtin .append, #[x, y], #[tx, tyy]⟩, ty, pos, after, none⟩ :: l) i ⟨E env w, ⟨h, c⟩, sn, md⟩ Q := by
  obtain ⟨h1, inf, z, h2, h3, h4, h5, h6, h7, h8⟩ := ht
  rcases hs with ⟨rfl, rfl, rfl, rfl⟩ | ⟨b, rfl, rfl, hg, hlen, hpos⟩
  · by_cases hm0 : m = 0
    · subst hm0
      have hn0 : new = [] := by apply List.eq_nil_of_length_eq_zero; simpa using hnew
      subst hn0
      refine ro_wild rfl (fun q => ?_) (k none 0 h (.inl ⟨rfl, rfl, rfl, rfl⟩) (by simp [own]) (fun _ _ _ => rfl))
      simp [evWild, evL hl (show lkL n w [x, y] = some [_, _] by simp [lkL, hx, hy]; exact ⟨rfl, rfl⟩), evAppend, h1, h2, h3, h5, h6, h7, h8, hsrc]
    · refine ro_wild rfl (fun q => ?_) (k (some ⟨c0 + i, 0, none⟩) 1 (h.set (c0 + i) ⟨new, e, sz⟩) (.inr ⟨_, rfl, rfl, by simp [T.get_set], by simpa using hnew, by omega⟩) (by simp [own]) (fun z hz _ => by rw [T.get_set, if_neg hz]))
      have hb' : m * by_ ≤ 140737488355328 := by simpa using hb
      have hm' : m ≤ 4611686018427387904 := by omega
      simp [evWild, evL hl (show lkL n w [x, y] = some [_, _] by simp [lkL, hx, hy]; exact ⟨rfl, rfl⟩), evAppend, h1, h2, h3, h4, h5, h6, h7, h8, hsrc, hm0, hb', hm']
  · refine ro_wild rfl (fun q => ?_) (k (some ⟨c0 + i, 0, none⟩) 1 ((h.del b).set (c0 + i) ⟨cs ++ new, e, sz⟩) (.inr ⟨_, rfl, rfl, by simp [T.get_set], by rw [List.length_append, hlen, hnew, Nat.add_mul], by omega⟩) (by simp [own]) (fun z hz hz2 => by rw [T.get_set, if_neg hz, T.get_del, if_neg (by simpa [own] using hz2)]))
    simp [evWild, evL hl (show lkL n w [x, y] = some [_, _] by simp [lkL, hx, hy]; exact ⟨rfl, rfl⟩), evAppend, h1, h2, h3, h4, h5, h6, h7, h8, hsrc, hg, hlen, hb, hm]
theorem qX {tx tyy e by_ nx cp yb : Nat} {x y : Operand} {u : Value} {a : Option Addr} {cs : List Value} (hl : env.length = n) (hx : lkO n w x = some (.slice a nx cp)) (hy : lkO n w y = some (.slice (some ⟨yb, 0, none⟩) 1 1)) (ht : EA P tx e 1 by_) (hty : EA P tyy e 1 by_)
    (hs : SlR e 1 cs a nx cp h.get) (hg : h.get yb = some ⟨[u], e, 1⟩) (hu : oneCell u = true) (hb : (nx + 1) * by_ ≤ 140737488355328) (hm : nx + 1 ≤ 4611686018427387904)
    (k : ∀ a' cp' h', SlR e 1 (cs ++ [u]) a' (nx + 1) cp' h'.get → (∀ z ∈ own a', z = c0 + i) → (∀ z, z ≠ c0 + i → z ∉ own a → h'.get z = h.get z) → RO P ov ops c0 l (i + 1) ⟨E env ((d, .slice a' (nx + 1) cp') :: w), ⟨h', c⟩, (i + 1, h') :: sn, md⟩ Q) :
    RO P ov ops c0 (⟨some d, .call ⟨.builtin .append, #[x, y], #[tx, tyy]⟩, ty, pos, after, none⟩ :: l) i ⟨E env w, ⟨h, c⟩, sn, md⟩ Q :=
  q_append hl hx hy ht hs (m := 1) (new := [u]) (by simp [srcCells, hty.1, hg, hu]) rfl hb hm k
theorem bytesOf_map (bs : List UInt8) : bytesOf (bs.map fun b => .int .u8 b.toNat) = some bs := by
  induction bs with
  | nil => rfl
  | cons b bs ih => simp [bytesOf, ih]
theorem qY {s t e m cp : Nat} {x : Operand} {a : Option Addr} {bs : List UInt8} (hl : env.length = n) (hx : lkO n w x = some (.slice a m cp)) (hs : P.underlying s = some (.slice e)) (ht : P.underlying t = some .string) (he : P.underlying e = some (.int .u8))
    (hS : SlR e 1 (bs.map fun b => .int .u8 b.toNat) a m cp h.get)
    (k : RO P ov ops c0 l (i + 1) ⟨E env ((d, .string ⟨bs.toArray⟩) :: w), ⟨h, c⟩, sn, md⟩ Q) :
    RO P ov ops c0 (⟨some d, .convert s t x, ty, pos, after, none⟩ :: l) i ⟨E env w, ⟨h, c⟩, sn, md⟩ Q := by
  refine q_loc rfl ?_ k
  rcases hS with ⟨hn, rfl, rfl, rfl⟩ | ⟨b, rfl, rfl, hg, hlen, hpos⟩
  · have : bs = [] := by simpa using hn
    subst this
    simp [evLocal, evE hl hx, evConv, hs, ht, he]; rfl
  · have hm : m ≠ 0 := by omega
    have hl2 : bs.length = m := by simpa using hlen
    subst hl2
    simp [evLocal, evE hl hx, evConv, hs, ht, he, hm, hg, bytesOf_map]
    rw [List.take_of_length_le (by simp), bytesOf_map]
end
end Go.AE
namespace Go.Proofs.YtegjkhgaoabfcaaGreat
open Go.AE
theorem p1 : P1 Tryz.prog 1 := ⟨fun cs off => by simp [partA, Tryz.underlying1, i1], _, i1, s1⟩
theorem p2 : P1 Tryz.prog 2 := ⟨fun cs off => by simp [partA, Tryz.underlying2, i2], _, i2, s2⟩
theorem p3 : P1 Tryz.prog 3 := ⟨fun cs off => by simp [partA, Tryz.underlying3, i3], _, i3, s3⟩
theorem p4 : P1 Tryz.prog 4 := ⟨fun cs off => by simp [partA, Tryz.underlying4, i4], _, i4, s4⟩
theorem p5 : P1 Tryz.prog 5 := ⟨fun cs off => by simp [partA, Tryz.underlying5, i5], _, i5, s5⟩
theorem p6 : P1 Tryz.prog 6 := ⟨fun cs off => by simp [partA, Tryz.underlying6, i6], _, i6, s6⟩
theorem p7 : PN Tryz.prog 7 4 := ⟨fun cs off => by simp [partA, Tryz.underlying7, i7, s7], _, i7, s7⟩
theorem p9 : P1 Tryz.prog 9 := ⟨fun cs off => by simp [partA, Tryz.underlying9, i9], _, i9, s9⟩
theorem p23 : P1 Tryz.prog 23 := ⟨fun cs off => by simp [partA, Tryz.underlying23, i23], _, i23, s23⟩
theorem p28 : PN Tryz.prog 28 2 := ⟨fun cs off => by simp [partA, Tryz.underlying28, i28, s28], _, i28, s28⟩
theorem fa28_0 : FA Tryz.prog 28 0 0 := ⟨_, _, _, Tryz.underlying28, rfl, i9, by rw [s9]; decide, rfl⟩
theorem fa28_1 : FA Tryz.prog 28 1 1 := ⟨_, _, _, Tryz.underlying28, rfl, i3, by rw [s3]; decide, rfl⟩
theorem nq33 (a : Addr) : evBin Tryz.prog .eql 33 (.pointer (some a)) (.pointer none) = some (.bool false) := by simp [evBin, evEq, Tryz.underlying33]
theorem nn33 (a : Addr) : evBin Tryz.prog .neq 33 (.pointer (some a)) (.pointer none) = some (.bool true) := by simp [evBin, evEq, Tryz.underlying33]
theorem nq36 (a : Addr) : evBin Tryz.prog .eql 36 (.pointer (some a)) (.pointer none) = some (.bool false) := by simp [evBin, evEq, Tryz.underlying36]
theorem nn36 (a : Addr) : evBin Tryz.prog .neq 36 (.pointer (some a)) (.pointer none) = some (.bool true) := by simp [evBin, evEq, Tryz.underlying36]
theorem p38 : P1 Tryz.prog 38 := ⟨fun cs off => by simp [partA, Tryz.underlying38, i38], _, i38, s38⟩
theorem p40 : PN Tryz.prog 40 3 := ⟨fun cs off => by simp [partA, Tryz.underlying40, i40, s40], _, i40, s40⟩
theorem fa40_0 : FA Tryz.prog 40 0 0 := ⟨_, _, _, Tryz.underlying40, rfl, i9, by rw [s9]; decide, rfl⟩
theorem fa40_1 : FA Tryz.prog 40 1 1 := ⟨_, _, _, Tryz.underlying40, rfl, i3, by rw [s3]; decide, rfl⟩
theorem fa40_2 : FA Tryz.prog 40 2 2 := ⟨_, _, _, Tryz.underlying40, rfl, i38, by rw [s38]; decide, rfl⟩
theorem p49 : PN Tryz.prog 49 3 := ⟨fun cs off => by simp [partA, Tryz.underlying49, i49, s49], _, i49, s49⟩
theorem fa49_0 : FA Tryz.prog 49 0 0 := ⟨_, _, _, Tryz.underlying49, rfl, i9, by rw [s9]; decide, rfl⟩
theorem fa49_1 : FA Tryz.prog 49 1 1 := ⟨_, _, _, Tryz.underlying49, rfl, i3, by rw [s3]; decide, rfl⟩
theorem fa49_2 : FA Tryz.prog 49 2 2 := ⟨_, _, _, Tryz.underlying49, rfl, i38, by rw [s38]; decide, rfl⟩
theorem p63 : P1 Tryz.prog 63 := ⟨fun cs off => by simp [partA, Tryz.underlying63, i63], _, i63, s63⟩
theorem e63 : ESz Tryz.prog 63 38 1 := ⟨Tryz.underlying63, _, i38, s38⟩
theorem a63 : EA Tryz.prog 63 38 1 4 := ⟨Tryz.underlying63, _, _, i38, s38, b38, z38, rfl, rfl, by decide⟩
theorem p102 : P1 Tryz.prog 102 := ⟨fun cs off => by simp [partA, Tryz.underlying102, i102], _, i102, s102⟩
theorem e102 : ESz Tryz.prog 102 5 1 := ⟨Tryz.underlying102, _, i5, s5⟩
theorem a102 : EA Tryz.prog 102 5 1 1 := ⟨Tryz.underlying102, _, _, i5, s5, b5, z5, rfl, rfl, by decide⟩
theorem fa104_1 : FA Tryz.prog 104 1 1 := ⟨_, _, _, Tryz.underlying104, rfl, i102, by rw [s102]; decide, rfl⟩
theorem p114 : PN Tryz.prog 114 3 := ⟨fun cs off => by simp [partA, Tryz.underlying114, i114, s114], _, i114, s114⟩
theorem fa114_0 : FA Tryz.prog 114 0 0 := ⟨_, _, _, Tryz.underlying114, rfl, i9, by rw [s9]; decide, rfl⟩
theorem fa114_1 : FA Tryz.prog 114 1 1 := ⟨_, _, _, Tryz.underlying114, rfl, i3, by rw [s3]; decide, rfl⟩
theorem fa114_2 : FA Tryz.prog 114 2 2 := ⟨_, _, _, Tryz.underlying114, rfl, i3, by rw [s3]; decide, rfl⟩
theorem p118 : P1 Tryz.prog 118 := ⟨fun cs off => by simp [partA, Tryz.underlying118, i118], _, i118, s118⟩
theorem p119 : P1 Tryz.prog 119 := ⟨fun cs off => by simp [partA, Tryz.underlying119, i119], _, i119, s119⟩
theorem nq119 (a : Addr) : evBin Tryz.prog .eql 119 (.pointer (some a)) (.pointer none) = some (.bool false) := by simp [evBin, evEq, Tryz.underlying119]
theorem nn119 (a : Addr) : evBin Tryz.prog .neq 119 (.pointer (some a)) (.pointer none) = some (.bool true) := by simp [evBin, evEq, Tryz.underlying119]
theorem fa121_0 : FA Tryz.prog 121 0 0 := ⟨_, _, _, Tryz.underlying121, rfl, i3, by rw [s3]; decide, rfl⟩
theorem fa121_1 : FA Tryz.prog 121 1 1 := ⟨_, _, _, Tryz.underlying121, rfl, i118, by rw [s118]; decide, rfl⟩
theorem fa121_2 : FA Tryz.prog 121 2 2 := ⟨_, _, _, Tryz.underlying121, rfl, i3, by rw [s3]; decide, rfl⟩
theorem fa121_3 : FA Tryz.prog 121 3 3 := ⟨_, _, _, Tryz.underlying121, rfl, i3, by rw [s3]; decide, rfl⟩
theorem fa121_4 : FA Tryz.prog 121 4 4 := ⟨_, _, _, Tryz.underlying121, rfl, i119, by rw [s119]; decide, rfl⟩
theorem fa121_5 : FA Tryz.prog 121 5 5 := ⟨_, _, _, Tryz.underlying121, rfl, i40, by rw [s40]; decide, rfl⟩
theorem fa121_6 : FA Tryz.prog 121 6 8 := ⟨_, _, _, Tryz.underlying121, rfl, i38, by rw [s38]; decide, rfl⟩
theorem fa121_7 : FA Tryz.prog 121 7 9 := ⟨_, _, _, Tryz.underlying121, rfl, i4, by rw [s4]; decide, rfl⟩
theorem fa121_8 : FA Tryz.prog 121 8 10 := ⟨_, _, _, Tryz.underlying121, rfl, i23, by rw [s23]; decide, rfl⟩
theorem fa123_0 : FA Tryz.prog 123 0 0 := ⟨_, _, _, Tryz.underlying123, rfl, i9, by rw [s9]; decide, rfl⟩
theorem fa123_1 : FA Tryz.prog 123 1 1 := ⟨_, _, _, Tryz.underlying123, rfl, i3, by rw [s3]; decide, rfl⟩
theorem fa123_2 : FA Tryz.prog 123 2 2 := ⟨_, _, _, Tryz.underlying123, rfl, i3, by rw [s3]; decide, rfl⟩
theorem nq147 (a : Addr) : evBin Tryz.prog .eql 147 (.pointer (some a)) (.pointer none) = some (.bool false) := by simp [evBin, evEq, Tryz.underlying147]
theorem nn147 (a : Addr) : evBin Tryz.prog .neq 147 (.pointer (some a)) (.pointer none) = some (.bool true) := by simp [evBin, evEq, Tryz.underlying147]
theorem nq149 (a : Addr) : evBin Tryz.prog .eql 149 (.pointer (some a)) (.pointer none) = some (.bool false) := by simp [evBin, evEq, Tryz.underlying149]
theorem nn149 (a : Addr) : evBin Tryz.prog .neq 149 (.pointer (some a)) (.pointer none) = some (.bool true) := by simp [evBin, evEq, Tryz.underlying149]
theorem p160 : PN Tryz.prog 160 6 := ⟨fun cs off => by simp [partA, Tryz.underlying160, i160, s160], _, i160, s160⟩
theorem fa160_0 : FA Tryz.prog 160 0 0 := ⟨_, _, _, Tryz.underlying160, rfl, i49, by rw [s49]; decide, rfl⟩
theorem fa160_1 : FA Tryz.prog 160 1 3 := ⟨_, _, _, Tryz.underlying160, rfl, i3, by rw [s3]; decide, rfl⟩
theorem fa160_3 : FA Tryz.prog 160 3 5 := ⟨_, _, _, Tryz.underlying160, rfl, i3, by rw [s3]; decide, rfl⟩
theorem p162 : P1 Tryz.prog 162 := ⟨fun cs off => by simp [partA, Tryz.underlying162, i162], _, i162, s162⟩
theorem nq162 (a : Addr) : evBin Tryz.prog .eql 162 (.pointer (some a)) (.pointer none) = some (.bool false) := by simp [evBin, evEq, Tryz.underlying162]
theorem nz162 : evBin Tryz.prog .eql 162 (.pointer none) (.pointer none) = some (.bool true) := by simp [evBin, evEq, Tryz.underlying162]
theorem nn162 (a : Addr) : evBin Tryz.prog .neq 162 (.pointer (some a)) (.pointer none) = some (.bool true) := by simp [evBin, evEq, Tryz.underlying162]
theorem fa164_0 : FA Tryz.prog 164 0 0 := ⟨_, _, _, Tryz.underlying164, rfl, i162, by rw [s162]; decide, rfl⟩
theorem fa164_1 : FA Tryz.prog 164 1 1 := ⟨_, _, _, Tryz.underlying164, rfl, i3, by rw [s3]; decide, rfl⟩
theorem fa164_2 : FA Tryz.prog 164 2 2 := ⟨_, _, _, Tryz.underlying164, rfl, i4, by rw [s4]; decide, rfl⟩
theorem fa164_3 : FA Tryz.prog 164 3 3 := ⟨_, _, _, Tryz.underlying164, rfl, i38, by rw [s38]; decide, rfl⟩
theorem fa164_4 : FA Tryz.prog 164 4 4 := ⟨_, _, _, Tryz.underlying164, rfl, i3, by rw [s3]; decide, rfl⟩
theorem fa164_5 : FA Tryz.prog 164 5 5 := ⟨_, _, _, Tryz.underlying164, rfl, i102, by rw [s102]; decide, rfl⟩
theorem fa164_6 : FA Tryz.prog 164 6 6 := ⟨_, _, _, Tryz.underlying164, rfl, i4, by rw [s4]; decide, rfl⟩
theorem fa164_7 : FA Tryz.prog 164 7 7 := ⟨_, _, _, Tryz.underlying164, rfl, i23, by rw [s23]; decide, rfl⟩
theorem p165 : P1 Tryz.prog 165 := ⟨fun cs off => by simp [partA, Tryz.underlying165, i165], _, i165, s165⟩
theorem nq165 (a : Addr) : evBin Tryz.prog .eql 165 (.pointer (some a)) (.pointer none) = some (.bool false) := by simp [evBin, evEq, Tryz.underlying165]
theorem nn165 (a : Addr) : evBin Tryz.prog .neq 165 (.pointer (some a)) (.pointer none) = some (.bool true) := by simp [evBin, evEq, Tryz.underlying165]
theorem p166 : P1 Tryz.prog 166 := ⟨fun cs off => by simp [partA, Tryz.underlying166, i166], _, i166, s166⟩
theorem nq166 (a : Addr) : evBin Tryz.prog .eql 166 (.pointer (some a)) (.pointer none) = some (.bool false) := by simp [evBin, evEq, Tryz.underlying166]
theorem p167 : P1 Tryz.prog 167 := ⟨fun cs off => by simp [partA, Tryz.underlying167, i167], _, i167, s167⟩
theorem nq167 (a : Addr) : evBin Tryz.prog .eql 167 (.pointer (some a)) (.pointer none) = some (.bool false) := by simp [evBin, evEq, Tryz.underlying167]
theorem fa169_0 : FA Tryz.prog 169 0 0 := ⟨_, _, _, Tryz.underlying169, rfl, i165, by rw [s165]; decide, rfl⟩
theorem fa169_1 : FA Tryz.prog 169 1 1 := ⟨_, _, _, Tryz.underlying169, rfl, i166, by rw [s166]; decide, rfl⟩
theorem fa169_2 : FA Tryz.prog 169 2 2 := ⟨_, _, _, Tryz.underlying169, rfl, i167, by rw [s167]; decide, rfl⟩
theorem fa169_3 : FA Tryz.prog 169 3 3 := ⟨_, _, _, Tryz.underlying169, rfl, i3, by rw [s3]; decide, rfl⟩
theorem fa169_4 : FA Tryz.prog 169 4 4 := ⟨_, _, _, Tryz.underlying169, rfl, i3, by rw [s3]; decide, rfl⟩
theorem p171 : P1 Tryz.prog 171 := ⟨fun cs off => by simp [partA, Tryz.underlying171, i171], _, i171, s171⟩
theorem e171 : ESz Tryz.prog 171 3 1 := ⟨Tryz.underlying171, _, i3, s3⟩
theorem lz171 : evBin Tryz.prog .eql 171 (.slice none 0 0) (.slice none 0 0) = some (.bool true) := by simp [evBin, evEq, Tryz.underlying171]
theorem lq171 (a : Addr) (n c : Nat) : evBin Tryz.prog .eql 171 (.slice (some a) n c) (.slice none 0 0) = some (.bool false) := by simp [evBin, evEq, Tryz.underlying171]
theorem a171 : EA Tryz.prog 171 3 1 8 := ⟨Tryz.underlying171, _, _, i3, s3, b3, z3, rfl, rfl, by decide⟩
theorem p184 : PN Tryz.prog 184 256 := ⟨fun cs off => by simp [partA, Tryz.underlying184, i184, s184], _, i184, s184⟩
theorem fa186_0 : FA Tryz.prog 186 0 0 := ⟨_, _, _, Tryz.underlying186, rfl, i9, by rw [s9]; decide, rfl⟩
theorem fa186_1 : FA Tryz.prog 186 1 1 := ⟨_, _, _, Tryz.underlying186, rfl, i184, by rw [s184]; decide, rfl⟩
theorem fa186_2 : FA Tryz.prog 186 2 257 := ⟨_, _, _, Tryz.underlying186, rfl, i171, by rw [s171]; decide, rfl⟩
theorem fa186_3 : FA Tryz.prog 186 3 258 := ⟨_, _, _, Tryz.underlying186, rfl, i3, by rw [s3]; decide, rfl⟩
theorem fa186_4 : FA Tryz.prog 186 4 259 := ⟨_, _, _, Tryz.underlying186, rfl, i102, by rw [s102]; decide, rfl⟩
theorem fa186_5 : FA Tryz.prog 186 5 260 := ⟨_, _, _, Tryz.underlying186, rfl, i3, by rw [s3]; decide, rfl⟩
theorem p200 : PN Tryz.prog 200 3 := ⟨fun cs off => by simp [partA, Tryz.underlying200, i200, s200], _, i200, s200⟩
theorem fa200_0 : FA Tryz.prog 200 0 0 := ⟨_, _, _, Tryz.underlying200, rfl, i9, by rw [s9]; decide, rfl⟩
theorem fa200_1 : FA Tryz.prog 200 1 1 := ⟨_, _, _, Tryz.underlying200, rfl, i3, by rw [s3]; decide, rfl⟩
theorem fa200_2 : FA Tryz.prog 200 2 2 := ⟨_, _, _, Tryz.underlying200, rfl, i3, by rw [s3]; decide, rfl⟩
theorem p203 : PN Tryz.prog 203 4 := ⟨fun cs off => by simp [partA, Tryz.underlying203, i203, s203], _, i203, s203⟩
theorem fa203_0 : FA Tryz.prog 203 0 0 := ⟨_, _, _, Tryz.underlying203, rfl, i171, by rw [s171]; decide, rfl⟩
theorem fa203_1 : FA Tryz.prog 203 1 1 := ⟨_, _, _, Tryz.underlying203, rfl, i3, by rw [s3]; decide, rfl⟩
theorem fa203_2 : FA Tryz.prog 203 2 2 := ⟨_, _, _, Tryz.underlying203, rfl, i3, by rw [s3]; decide, rfl⟩
theorem fa203_3 : FA Tryz.prog 203 3 3 := ⟨_, _, _, Tryz.underlying203, rfl, i3, by rw [s3]; decide, rfl⟩
theorem p210 : P1 Tryz.prog 210 := ⟨fun cs off => by simp [partA, Tryz.underlying210, i210], _, i210, s210⟩
theorem nq210 (a : Addr) : evBin Tryz.prog .eql 210 (.pointer (some a)) (.pointer none) = some (.bool false) := by simp [evBin, evEq, Tryz.underlying210]
theorem nn210 (a : Addr) : evBin Tryz.prog .neq 210 (.pointer (some a)) (.pointer none) = some (.bool true) := by simp [evBin, evEq, Tryz.underlying210]
theorem p211 : P1 Tryz.prog 211 := ⟨fun cs off => by simp [partA, Tryz.underlying211, i211], _, i211, s211⟩
theorem nq211 (a : Addr) : evBin Tryz.prog .eql 211 (.pointer (some a)) (.pointer none) = some (.bool false) := by simp [evBin, evEq, Tryz.underlying211]
theorem nn211 (a : Addr) : evBin Tryz.prog .neq 211 (.pointer (some a)) (.pointer none) = some (.bool true) := by simp [evBin, evEq, Tryz.underlying211]
theorem p212 : P1 Tryz.prog 212 := ⟨fun cs off => by simp [partA, Tryz.underlying212, i212], _, i212, s212⟩
theorem e212 : ESz Tryz.prog 212 323 1 := ⟨Tryz.underlying212, _, i323, s323⟩
theorem a212 : EA Tryz.prog 212 323 1 8 := ⟨Tryz.underlying212, _, _, i323, s323, b323, z323, rfl, rfl, by decide⟩
theorem fa214_0 : FA Tryz.prog 214 0 0 := ⟨_, _, _, Tryz.underlying214, rfl, i3, by rw [s3]; decide, rfl⟩
theorem fa214_1 : FA Tryz.prog 214 1 1 := ⟨_, _, _, Tryz.underlying214, rfl, i210, by rw [s210]; decide, rfl⟩
theorem fa214_2 : FA Tryz.prog 214 2 2 := ⟨_, _, _, Tryz.underlying214, rfl, i171, by rw [s171]; decide, rfl⟩
theorem fa214_3 : FA Tryz.prog 214 3 3 := ⟨_, _, _, Tryz.underlying214, rfl, i211, by rw [s211]; decide, rfl⟩
theorem fa214_4 : FA Tryz.prog 214 4 4 := ⟨_, _, _, Tryz.underlying214, rfl, i212, by rw [s212]; decide, rfl⟩
theorem fa214_5 : FA Tryz.prog 214 5 5 := ⟨_, _, _, Tryz.underlying214, rfl, i3, by rw [s3]; decide, rfl⟩
theorem fa214_6 : FA Tryz.prog 214 6 6 := ⟨_, _, _, Tryz.underlying214, rfl, i4, by rw [s4]; decide, rfl⟩
theorem fa214_7 : FA Tryz.prog 214 7 7 := ⟨_, _, _, Tryz.underlying214, rfl, i23, by rw [s23]; decide, rfl⟩
theorem p232 : PN Tryz.prog 232 256 := ⟨fun cs off => by simp [partA, Tryz.underlying232, i232, s232], _, i232, s232⟩
theorem fa235_0 : FA Tryz.prog 235 0 0 := ⟨_, _, _, Tryz.underlying235, rfl, i232, by rw [s232]; decide, rfl⟩
theorem fa235_1 : FA Tryz.prog 235 1 256 := ⟨_, _, _, Tryz.underlying235, rfl, i38, by rw [s38]; decide, rfl⟩
theorem p238 : PN Tryz.prog 238 5 := ⟨fun cs off => by simp [partA, Tryz.underlying238, i238, s238], _, i238, s238⟩
theorem fa238_0 : FA Tryz.prog 238 0 0 := ⟨_, _, _, Tryz.underlying238, rfl, i171, by rw [s171]; decide, rfl⟩
theorem fa238_1 : FA Tryz.prog 238 1 1 := ⟨_, _, _, Tryz.underlying238, rfl, i3, by rw [s3]; decide, rfl⟩
theorem fa238_2 : FA Tryz.prog 238 2 2 := ⟨_, _, _, Tryz.underlying238, rfl, i3, by rw [s3]; decide, rfl⟩
theorem fa238_4 : FA Tryz.prog 238 4 4 := ⟨_, _, _, Tryz.underlying238, rfl, i3, by rw [s3]; decide, rfl⟩
theorem p240 : P1 Tryz.prog 240 := ⟨fun cs off => by simp [partA, Tryz.underlying240, i240], _, i240, s240⟩
theorem e240 : ESz Tryz.prog 240 244 1 := ⟨Tryz.underlying240, _, i244, s244⟩
theorem a240 : EA Tryz.prog 240 244 1 24 := ⟨Tryz.underlying240, _, _, i244, s244, b244, z244, rfl, rfl, by decide⟩
theorem p242 : PN Tryz.prog 242 3 := ⟨fun cs off => by simp [partA, Tryz.underlying242, i242, s242], _, i242, s242⟩
theorem fa242_0 : FA Tryz.prog 242 0 0 := ⟨_, _, _, Tryz.underlying242, rfl, i240, by rw [s240]; decide, rfl⟩
theorem fa242_1 : FA Tryz.prog 242 1 1 := ⟨_, _, _, Tryz.underlying242, rfl, i3, by rw [s3]; decide, rfl⟩
theorem fa242_2 : FA Tryz.prog 242 2 2 := ⟨_, _, _, Tryz.underlying242, rfl, i3, by rw [s3]; decide, rfl⟩
theorem p244 : P1 Tryz.prog 244 := ⟨fun cs off => by simp [partA, Tryz.underlying244, i244], _, i244, s244⟩
theorem e244 : ESz Tryz.prog 244 9 1 := ⟨Tryz.underlying244, _, i9, s9⟩
theorem p247 : PN Tryz.prog 247 5 := ⟨fun cs off => by simp [partA, Tryz.underlying247, i247, s247], _, i247, s247⟩
theorem fa247_0 : FA Tryz.prog 247 0 0 := ⟨_, _, _, Tryz.underlying247, rfl, i3, by rw [s3]; decide, rfl⟩
theorem fa247_1 : FA Tryz.prog 247 1 1 := ⟨_, _, _, Tryz.underlying247, rfl, i3, by rw [s3]; decide, rfl⟩
theorem fa247_2 : FA Tryz.prog 247 2 2 := ⟨_, _, _, Tryz.underlying247, rfl, i3, by rw [s3]; decide, rfl⟩
theorem fa247_3 : FA Tryz.prog 247 3 3 := ⟨_, _, _, Tryz.underlying247, rfl, i171, by rw [s171]; decide, rfl⟩
theorem fa247_4 : FA Tryz.prog 247 4 4 := ⟨_, _, _, Tryz.underlying247, rfl, i4, by rw [s4]; decide, rfl⟩
theorem p249 : PN Tryz.prog 249 8 := ⟨fun cs off => by simp [partA, Tryz.underlying249, i249, s249], _, i249, s249⟩
theorem fa249_0 : FA Tryz.prog 249 0 0 := ⟨_, _, _, Tryz.underlying249, rfl, i247, by rw [s247]; decide, rfl⟩
theorem fa249_1 : FA Tryz.prog 249 1 5 := ⟨_, _, _, Tryz.underlying249, rfl, i3, by rw [s3]; decide, rfl⟩
theorem fa249_2 : FA Tryz.prog 249 2 6 := ⟨_, _, _, Tryz.underlying249, rfl, i3, by rw [s3]; decide, rfl⟩
theorem fa249_3 : FA Tryz.prog 249 3 7 := ⟨_, _, _, Tryz.underlying249, rfl, i3, by rw [s3]; decide, rfl⟩
theorem p253 : PN Tryz.prog 253 6 := ⟨fun cs off => by simp [partA, Tryz.underlying253, i253, s253], _, i253, s253⟩
theorem fa255_0 : FA Tryz.prog 255 0 0 := ⟨_, _, _, Tryz.underlying255, rfl, i3, by rw [s3]; decide, rfl⟩
theorem fa255_1 : FA Tryz.prog 255 1 1 := ⟨_, _, _, Tryz.underlying255, rfl, i3, by rw [s3]; decide, rfl⟩
theorem fa255_2 : FA Tryz.prog 255 2 2 := ⟨_, _, _, Tryz.underlying255, rfl, i253, by rw [s253]; decide, rfl⟩
theorem fa255_3 : FA Tryz.prog 255 3 8 := ⟨_, _, _, Tryz.underlying255, rfl, i171, by rw [s171]; decide, rfl⟩
theorem fa255_4 : FA Tryz.prog 255 4 9 := ⟨_, _, _, Tryz.underlying255, rfl, i4, by rw [s4]; decide, rfl⟩
theorem p272 : PN Tryz.prog 272 3 := ⟨fun cs off => by simp [partA, Tryz.underlying272, i272, s272], _, i272, s272⟩
theorem fa272_0 : FA Tryz.prog 272 0 0 := ⟨_, _, _, Tryz.underlying272, rfl, i171, by rw [s171]; decide, rfl⟩
theorem fa272_1 : FA Tryz.prog 272 1 1 := ⟨_, _, _, Tryz.underlying272, rfl, i3, by rw [s3]; decide, rfl⟩
theorem fa272_2 : FA Tryz.prog 272 2 2 := ⟨_, _, _, Tryz.underlying272, rfl, i3, by rw [s3]; decide, rfl⟩
theorem fa305_0 : FA Tryz.prog 305 0 0 := ⟨_, _, _, Tryz.underlying305, rfl, i102, by rw [s102]; decide, rfl⟩
theorem p315 : PN Tryz.prog 315 256 := ⟨fun cs off => by simp [partA, Tryz.underlying315, i315, s315], _, i315, s315⟩
theorem fa322_0 : FA Tryz.prog 322 0 0 := ⟨_, _, _, Tryz.underlying322, rfl, i3, by rw [s3]; decide, rfl⟩
theorem fa322_1 : FA Tryz.prog 322 1 1 := ⟨_, _, _, Tryz.underlying322, rfl, i3, by rw [s3]; decide, rfl⟩
theorem fa322_2 : FA Tryz.prog 322 2 2 := ⟨_, _, _, Tryz.underlying322, rfl, i3, by rw [s3]; decide, rfl⟩
theorem fa322_3 : FA Tryz.prog 322 3 3 := ⟨_, _, _, Tryz.underlying322, rfl, i3, by rw [s3]; decide, rfl⟩
theorem fa322_4 : FA Tryz.prog 322 4 4 := ⟨_, _, _, Tryz.underlying322, rfl, i3, by rw [s3]; decide, rfl⟩
theorem fa322_5 : FA Tryz.prog 322 5 5 := ⟨_, _, _, Tryz.underlying322, rfl, i4, by rw [s4]; decide, rfl⟩
theorem p323 : P1 Tryz.prog 323 := ⟨fun cs off => by simp [partA, Tryz.underlying323, i323], _, i323, s323⟩
theorem nq323 (a : Addr) : evBin Tryz.prog .eql 323 (.pointer (some a)) (.pointer none) = some (.bool false) := by simp [evBin, evEq, Tryz.underlying323]
theorem fa328_0 : FA Tryz.prog 328 0 0 := ⟨_, _, _, Tryz.underlying328, rfl, i3, by rw [s3]; decide, rfl⟩
theorem fa328_1 : FA Tryz.prog 328 1 1 := ⟨_, _, _, Tryz.underlying328, rfl, i3, by rw [s3]; decide, rfl⟩
theorem fa328_2 : FA Tryz.prog 328 2 2 := ⟨_, _, _, Tryz.underlying328, rfl, i171, by rw [s171]; decide, rfl⟩
theorem fa328_3 : FA Tryz.prog 328 3 3 := ⟨_, _, _, Tryz.underlying328, rfl, i4, by rw [s4]; decide, rfl⟩
theorem fa333_1 : FA Tryz.prog 333 1 1 := ⟨_, _, _, Tryz.underlying333, rfl, i63, by rw [s63]; decide, rfl⟩
theorem fa333_2 : FA Tryz.prog 333 2 2 := ⟨_, _, _, Tryz.underlying333, rfl, i171, by rw [s171]; decide, rfl⟩
theorem fa333_3 : FA Tryz.prog 333 3 3 := ⟨_, _, _, Tryz.underlying333, rfl, i330, by rw [s330]; decide, rfl⟩
theorem fa333_4 : FA Tryz.prog 333 4 24 := ⟨_, _, _, Tryz.underlying333, rfl, i331, by rw [s331]; decide, rfl⟩
end Go.Proofs.YtegjkhgaoabfcaaGreat
namespace Go.AE
section
variable {P : Program} {ov : OvT} {ops : Array Oper} {c0 d n : Nat} {ty : TypeId} {pos : String} {after : Array Edge} {l : List Oper} {i : Nat} {env : Env} {w : List (Nat × Value)} {h : Heap} {c : Nat} {sn : List (Nat × Heap)} {md : Heap} {Q : RS → Prop}
theorem q_bs0 {t e sz by_ : Nat} (ht : EA P t e sz by_) (k : RO P ov ops c0 l (i + 1) ⟨E env ((d, .slice (some ⟨c0 + i, 0, none⟩) 0 1) :: w), ⟨h.set (c0 + i) ⟨[], e, sz⟩, c⟩, sn, md.set (c0 + i) ⟨[], e, sz⟩⟩ Q) :
    RO P ov ops c0 (⟨some d, .buildSlice t 0 #[], ty, pos, after, none⟩ :: l) i ⟨E env w, ⟨h, c⟩, sn, md⟩ Q := by
  obtain ⟨h1, inf, z, h2, h3, h4, h5, h6, h7, h8⟩ := ht
  refine q_new rfl ?_ k
  simp [evLocal, h1, h2, h3, h5, h6, h7, h8, zerosOf, Instr.fill]
theorem q_makeFunc {f : FuncId} {fs cs : Array Operand} {vs us : List Value} (hl : env.length = n) (hf : lkL n w fs.toList = some vs) (hc : lkL n w cs.toList = some us)
    (k : RO P ov ops c0 l (i + 1) ⟨E env ((d, .func (.func f) vs.toArray us.toArray) :: w), ⟨h, c⟩, sn, md⟩ Q) :
    RO P ov ops c0 (⟨some d, .makeFunc (.func f) fs cs, ty, pos, after, none⟩ :: l) i ⟨E env w, ⟨h, c⟩, sn, md⟩ Q := q_loc rfl (by simp [evLocal, evL hl hf, evL hl hc]) k
theorem q_append0 {tx tyy e sz by_ m b : Nat} {x y : Operand} {vy : Value} {new : List Value} (hl : env.length = n) (hx : lkO n w x = some (.slice (some ⟨b, 0, none⟩) 0 1)) (hy : lkO n w y = some vy) (ht : EA P tx e sz by_)
    (hg : h.get b = some ⟨[], e, sz⟩) (hsrc : srcCells P (some tyy) h vy sz = some (m, new)) (hnew : new.length = m * sz) (hm0 : 0 < m) (hb : m * by_ ≤ 140737488355328) (hm : m ≤ 4611686018427387904)
    (k : ∀ h', SlR e sz new (some ⟨c0 + i, 0, none⟩) m 1 h'.get → (∀ z, z ≠ c0 + i → z ≠ b → h'.get z = h.get z) → RO P ov ops c0 l (i + 1) ⟨E env ((d, .slice (some ⟨c0 + i, 0, none⟩) m 1) :: w), ⟨h', c⟩, (i + 1, h') :: sn, md⟩ Q) :
    RO P ov ops c0 (⟨some d, .call ⟨.builtin .append, #[x, y], #[tx, tyy]⟩, ty, pos, after, none⟩ :: l) i ⟨E env w, ⟨h, c⟩, sn, md⟩ Q := by
  obtain ⟨h1, inf, z, h2, h3, h4, h5, h6, h7, h8⟩ := ht
  refine ro_wild rfl (fun q => ?_) (k ((h.del b).set (c0 + i) ⟨new, e, sz⟩) (.inr ⟨_, rfl, rfl, by simp [T.get_set], hnew, hm0⟩) (fun z hz hz2 => by rw [T.get_set, if_neg hz, T.get_del, if_neg hz2]))
  simp [evWild, evL hl (show lkL n w [x, y] = some [_, _] by simp [lkL, hx, hy]; exact ⟨rfl, rfl⟩), evAppend, h1, h2, h3, h4, h5, h6, h7, h8, hsrc, hg, hb, hm]
theorem f_c {fn : Func} {Qv : Value → St → Prop} {x : AExit} {a t b o cc : Nat} {blk : Blk} {v : Value} (hl : env.length = n) (hr : fn.results = #[.cell a t]) (hx : x = .ret ∨ x = .normal) (ha : lk n w a = some (.pointer (some ⟨b, o, none⟩))) (hb : h.get b = some blk) (hp : partA P t blk.cells o = some v) (hq : Qv v ⟨h, cc⟩) :
    Fin P fn Qv x (E env w) ⟨h, cc⟩ :=
  fin (vs := [v]) hx (by rw [hr]; simp [evResult, List.getD, lk_get hl ha, hb, hp]) hq
theorem SlR.src {t e sz nn cp : Nat} {cs : List Value} {a : Option Addr} {g : Heap} (hS : SlR e sz cs a nn cp g.get) (ht : P.underlying t = some (.slice e)) (h1 : cs.all oneCell = true) : srcCells P (some t) g (.slice a nn cp) sz = some (nn, cs) := by
  rcases hS with ⟨rfl, rfl, rfl, rfl⟩ | ⟨b, rfl, rfl, hg, hlen, hpos⟩
  · simp [srcCells, ht]
  · simp [srcCells, ht, hg, hlen]
    rw [List.take_of_length_le (by omega)]
    simpa using h1
theorem all_map_int {α : Type} (l : List α) (k : IntKind) (f : α → Int) : (l.map fun x => Value.int k (f x)).all oneCell = true := by
  induction l with
  | nil => rfl
  | cons a l ih => simp [oneCell]
end
theorem dz : (∀ (p : Prop) [Decidable p], decide p = true ↔ p) ∧ (∀ (p : Prop) [Decidable p], decide p = false ↔ ¬p) ∧ (∀ {α : Type} [BEq α] [LawfulBEq α] {a b : α}, (a == b) = true ↔ a = b) ∧ (∀ {α : Type} [BEq α] [LawfulBEq α] {a b : α}, (a != b) = true ↔ a ≠ b) ∧ (∀ {α : Type} [BEq α] [LawfulBEq α] {a b : α}, (a == b) = false ↔ a ≠ b) ∧ (∀ {α : Type} (a b : α), (a ≠ b) = ¬(a = b)) ∧ (∀ {a b : Int}, ¬(a < b) ↔ b ≤ a) ∧ (∀ {a b : Int}, ¬(a ≤ b) ↔ b < a) ∧ (∀ {p : Prop} [Decidable p], ¬¬p ↔ p) :=
  ⟨fun _ _ => decide_eq_true_iff, fun _ _ => decide_eq_false_iff_not, beq_iff_eq, bne_iff_ne, beq_eq_false_iff_ne, fun _ _ => rfl, Int.not_lt, Int.not_le, Decidable.not_not⟩
theorem dy : (∀ {b : Bool}, ((!b) = true) = (b = false)) ∧ (∀ {b : Bool}, ((!b) = false) = (b = true)) := ⟨by intro b; cases b <;> simp, by intro b; cases b <;> simp⟩
theorem wI {x : Int} (h : -9223372036854775808 ≤ x ∧ x < 9223372036854775808) : IntKind.i64.wrap x = x := wrapI h.1 h.2
theorem wU {x : Int} (h : 0 ≤ x ∧ x < 4294967296) : IntKind.u32.wrap x = x := wrapU32 h.1 h.2
theorem wB {x : Int} (h : 0 ≤ x ∧ x < 256) : IntKind.u8.wrap x = x := wrapU8 h.1 h.2
theorem wL {x : Int} (h : 0 ≤ x ∧ x < 18446744073709551616) : IntKind.u64.wrap x = x := wrapU64 h.1 h.2
theorem gs {α : Type} : (∀ (t : T α) (k k' : Nat) (x : α), (t.set k x).get k' = if k' = k then some x else t.get k') ∧ (∀ (t : T α) (k k' : Nat), (t.del k).get k' = if k' = k then none else t.get k') ∧ (∀ (a b : Option α), (if True then a else b) = a) :=
  ⟨T.get_set, T.get_del, fun _ _ => if_pos trivial⟩
theorem wA {k : IntKind} {x v : Int} (h : k.wrap x = v := by first | exact wI (by omega) | exact wU (by omega) | exact wB (by omega) | exact wL (by omega) | rfl) : k.wrap x = v := h
theorem dA {p : Prop} (h : p := by first | rfl | (simp only [dz]; omega) | (simp; done) | (simp; omega)) : p := h
theorem gA {p : Prop} (h : p := by first | assumption | (simp only [gs]; rfl) | (simp [gs]; try rfl)) : p := h
theorem oA {p : Prop} (h : p := by omega) : p := h
theorem aA {p : Prop} (h : p := by assumption) : p := h
theorem J.{u} {α : Sort u} {a : α} : a = a := rfl
section
variable {P : Program} {ov : OvT} {ops : Array Oper} {c0 i c : Nat} {env : Env} {h : Heap} {sn : List (Nat × Heap)} {md : Heap}
theorem rg {id : Nat} {K : AExit → Env → St → Prop} (n : Nat) (hn : ops.size = n) (k : RO P ov ops c ops.toList 0 ⟨env, ⟨h, c + n⟩, [(0, h)], .leaf⟩ (fun r => K .normal r.env r.st)) : RC P ov (.region id ops false) env ⟨h, c⟩ K := rc_region hn k
theorem sg {id : Nat} {b : Code} {K : AExit → Env → St → Prop} (n : Nat) (hn : ops.size = n) (k : RO P ov ops c ops.toList 0 ⟨env, ⟨h, c + n⟩, [(0, h)], .leaf⟩ (fun r => Nxt (fun env s => RC P ov b env s K) K .normal r.env r.st)) : RC P ov (.seq (.region id ops false) b) env ⟨h, c⟩ K := rS (rc_region hn k)
theorem nK {Kn : Env → St → Prop} {K : AExit → Env → St → Prop} (k : Kn env ⟨h, c⟩) : RO P ov ops c0 [] i ⟨env, ⟨h, c⟩, sn, md⟩ (fun r => Nxt Kn K .normal r.env r.st) := rN (kN k)
end
end Go.AE
