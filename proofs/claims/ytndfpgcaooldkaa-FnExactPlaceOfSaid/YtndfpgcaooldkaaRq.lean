/-
  A region that draws its order of evaluation, whose operations read, or draw the bits of a NaN: one walk in the order of the text serves every order, where what an operation yields is known up to a set of values. No program is in sight.
-/
import Derived.Still
import Derived.Deep.Draws
import Derived.BigQuiet
import Derived.Test.YtndfpgcaooldkaaFl
namespace Go.Proofs.Ytndfpgcaooldkaa
set_option linter.unusedVariables false
set_option linter.unusedSimpArgs false
open Go.RowKit
namespace Rq

section
variable {P : Program} {ops : Array Oper} {md : Region.Mode} {C : World → Prop} {c : Nat → Value → Prop}

/-- What an operation has brought about: a value of the set S and a world of the class; a call hands back a value of the set c, which lies in S. -/
def Brings (P : Program) (C : World → Prop) (c S : Value → Prop) : Result Next → Prop
  | .ok (.value u) w' => C w' ∧ S u
  | .ok .skip w' => C w' ∧ S undef
  | .ok (.enter f args) w' => Calls P f args w' (fun e w'' => ∃ v, e = .returned v ∧ c v ∧ C w'') ∧ ∀ v, c v → S v
  | _ => False

/-- In the frame a the operation o yields a value of S, in whatever world of the class. -/
def Hands (P : Program) (ops : Array Oper) (C : World → Prop) (c : Value → Prop) (o : Oper) (S : Value → Prop) (a : Act) : Prop :=
  (Region.wanted o (yielded ops a.tmps) = true → ∀ w, C w → Brings P C c S ((execOp a.eval o).run P w)) ∧ (Region.wanted o (yielded ops a.tmps) = false → S undef)

/-- One operation, number i. -/
def Step (P : Program) (ops : Array Oper) (C : World → Prop) (c : Nat → Value → Prop) (i : Nat) (K : Act → Prop) (a : Act) : Prop :=
  ∃ o, ops[i]? = some o ∧ ∃ S : Value → Prop, Hands P ops C (c i) o S a ∧ ∀ v, S v → K (a.put o.dst v)

/-- In whatever order. -/
def Any (P : Program) (md : Region.Mode) (ops : Array Oper) (C : World → Prop) (c : Nat → Value → Prop) (Q : Act → Prop) : Nat → Array Bool → Act → Prop
  | 0, listed, a => Region.ready md ops listed = [] ∧ Q a
  | n + 1, listed, a => (Region.ready md ops listed = [] → Q a) ∧ ∀ i ∈ Region.ready md ops listed, Step P ops C c i (Any P md ops C c Q n (listed.setIfInBounds i true)) a

/-- In the order of the text. -/
def Lex (P : Program) (ops : Array Oper) (C : World → Prop) (c : Nat → Value → Prop) (Q : Act → Prop) : Nat → List Oper → Act → Prop
  | _, [], a => Q a
  | k, o :: rest, a => ∃ S : Value → Prop, (∃ v, S v) ∧ Hands P ops C (c k) o S a ∧ ∀ v, S v → Lex P ops C c Q (k + 1) rest (a.put o.dst v)

theorem Brings.more {cc S T : Value → Prop} (h : ∀ v, S v → T v) {r : Result Next} (hb : Brings P C cc S r) : Brings P C cc T r := by
  cases r with
  | halt x w => cases x <;> exact hb
  | ok n w => cases n <;> first | exact ⟨hb.1, h _ hb.2⟩ | exact ⟨hb.1, fun v hv => h v (hb.2 v hv)⟩ | exact hb

theorem Step.more {i : Nat} {K K' : Act → Prop} {a : Act} (h : ∀ a, K a → K' a) : Step P ops C c i K a → Step P ops C c i K' a := by
  rintro ⟨o, ho, S, hS, hK⟩
  exact ⟨o, ho, S, hS, fun v hv => h _ (hK v hv)⟩

/-- Such an operation, in the walk of all orders. -/
theorem Step.wpOp {i : Nat} {K : Act → Prop} {K' : Act → World → Prop} {Q' : Exit → Act → World → Prop} {a : Act} {w : World} (hw : C w) (h : ∀ a w', C w' → K a → K' a w') (hs : Step P ops C c i K a) : wpOp P ops Q' i K' a w := by
  obtain ⟨o, ho, S, ⟨h1, h0⟩, hK⟩ := hs
  unfold Go.wpOp
  simp only [ho]
  cases hg : Region.wanted o (yielded ops a.tmps)
  · simp only [Bool.false_eq_true, if_false]
    exact h _ _ hw (hK _ (h0 hg))
  · simp only [if_true]
    refine .inl ?_
    have hb := h1 hg w hw
    unfold Oper.wp
    generalize (execOp a.eval o).run P w = r at hb
    cases r with
    | halt x w' => cases x <;> exact hb.elim
    | ok n w' =>
      cases n <;> simp only [Oper.upon] <;> try exact hb.elim
      · exact h _ _ hb.1 (hK _ hb.2)
      · exact h _ _ hb.1 (hK _ hb.2)
      · refine hb.1.mono ?_
        rintro e w'' ⟨v, rfl, hv, hC⟩
        exact h _ _ hC (hK _ (hb.2 v hv))

theorem Any.wpAny {Q : Act → Prop} {Q' : Exit → Act → World → Prop} (hQ : ∀ a w, C w → Q a → Q' .normal a w) : ∀ (n : Nat) (listed : Array Bool) (a : Act) (w : World), C w → Any P md ops C c Q n listed a → wpAny P md ops Q' n listed a w := by
  intro n
  induction n with
  | zero => exact fun listed a w hw h => ⟨h.1, hQ a w hw h.2⟩
  | succ n ih => exact fun listed a w hw h => ⟨fun h0 => hQ a w hw (h.1 h0), fun i hi => (h.2 i hi).wpOp hw (fun a' w' hw' => ih _ a' w' hw')⟩

/-- An operation that stands apart makes no difference to what another one yields. -/
theorem Hands.apart {x o : Oper} {cc S : Value → Prop} {a : Act} (hs : ∀ cs b, o.op ≠ .select cs b) (hd : ∀ d, x.dst = some d → d ∉ o.looksAt ops) (v : Value) : Hands P ops C cc o S (a.put x.dst v) ↔ Hands P ops C cc o S a := by
  unfold Hands
  rw [execOp_put o hs a x.dst v hd, wanted_put o a x.dst v hd]

/-- What is handed for each of a family of sets is handed for what they have in common. -/
theorem Hands.meet {o : Oper} {cc : Value → Prop} {a : Act} {ι : Type} {p : ι → Prop} (hne : ∃ i, p i) {S : ι → Value → Prop} (h : ∀ i, p i → Hands P ops C cc o (S i) a) : Hands P ops C cc o (fun u => ∀ i, p i → S i u) a := by
  obtain ⟨i0, hi0⟩ := hne
  refine ⟨fun hg w hw => ?_, fun hg i hi => (h i hi).2 hg⟩
  have hall := fun i hi => (h i hi).1 hg w hw
  have h0 := hall i0 hi0
  generalize (execOp a.eval o).run P w = r at *
  cases r with
  | halt x w' => cases x <;> exact h0.elim
  | ok n w' =>
    cases n <;> first
      | exact ⟨h0.1, fun i hi => (hall i hi).2⟩
      | exact ⟨h0.1, fun v hv i hi => (hall i hi).2 v hv⟩
      | exact h0.elim

/-- An operation that may come up now may be taken first. -/
theorem Any.first {Q : Act → Prop} {i : Nat} {o : Oper} {S : Value → Prop} (hi : ops[i]? = some o) (hsel : ∀ (j : Nat) (o : Oper) cs b, ops[j]? = some o → o.op ≠ .select cs b) (hne : ∃ v, S v) :
    ∀ (n : Nat) (listed : Array Bool) (a : Act),
      (∀ j oj, ops[j]? = some oj → j ≠ i → listed.getD j true = false → (∀ e ∈ oj.after, Region.binds md e = true → e.on ≠ i) → o.apart ops oj = true) →
      i ∈ Region.ready md ops listed → Hands P ops C (c i) o S a →
      (∀ v, S v → Any P md ops C c Q n (listed.setIfInBounds i true) (a.put o.dst v)) → Any P md ops C c Q (n + 1) listed a := by
  intro n
  induction n with
  | zero =>
    intro listed a _ hr hy H
    refine ⟨fun h => (by rw [h] at hr; cases hr), fun j hj => ?_⟩
    by_cases hji : j = i
    · subst hji; exact ⟨o, hi, S, hy, H⟩
    · obtain ⟨v, hv⟩ := hne
      have h1 := ready_mono hj hji
      rw [(H v hv).1] at h1
      cases h1
  | succ n ih =>
    intro listed a hfree hr hy H
    refine ⟨fun h => (by rw [h] at hr; cases hr), fun j hj => ?_⟩
    by_cases hji : j = i
    · subst hji; exact ⟨o, hi, S, hy, H⟩
    · obtain ⟨hjun, oj, hoj, hall⟩ := mem_ready.1 hj
      have hnot : ∀ e ∈ oj.after, Region.binds md e = true → e.on ≠ i := by
        intro e he hb heq
        have h1 := hall e he hb
        have h0 := (mem_ready.1 hr).1
        rw [heq] at h1
        rcases Nat.lt_or_ge i listed.size with h' | h'
        · simp [h'] at h0 h1; rw [h0] at h1; cases h1
        · simp [Array.getElem?_eq_none h'] at h1
      obtain ⟨d1, d2, d3⟩ := Oper.apart_spec (hfree j oj hoj hji hjun hnot)
      have hstep : ∀ v, S v → Hands P ops C (c j) oj (fun u => Any P md ops C c Q n ((listed.setIfInBounds i true).setIfInBounds j true) ((a.put o.dst v).put oj.dst u)) a := by
        intro v hv
        obtain ⟨oj', hoj', T, hT, hK⟩ := (H v hv).2 j (ready_mono hj hji)
        rw [hoj] at hoj'
        cases hoj'
        have hT' := (Hands.apart (fun cs b => hsel j oj cs b hoj) d1 v).1 hT
        exact ⟨fun hg w hw => (hT'.1 hg w hw).more hK, fun hg => hK _ (hT'.2 hg)⟩
      refine ⟨oj, hoj, _, Hands.meet hne hstep, fun u hu => ?_⟩
      refine ih (listed.setIfInBounds j true) (a.put oj.dst u) ?_ (ready_mono hr (Ne.symm hji)) ((Hands.apart (fun cs b => hsel i o cs b hi) d3 u).2 hy) ?_
      · intro k ok hk hki hun hno
        refine hfree k ok hk hki ?_ hno
        by_cases hjk : j = k
        · subst hjk; exact hjun
        · rw [getD_set_ne true hjk] at hun; exact hun
      · intro v hv
        rw [Array.setIfInBounds_comm _ _ hji, ← Act.put_comm a v u d2]
        exact hu v hv

theorem Lex.any {Q : Act → Prop} (hs : Region.noSelect ops = true) : ∀ (l : List Oper) (k : Nat) (listed : Array Bool) (a : Act), (∀ j, l[j]? = ops[k + j]?) →
    Region.lexFrom md ops l.length k listed = true → Lex P ops C c Q k l a → Any P md ops C c Q l.length listed a := by
  intro l
  induction l with
  | nil => exact fun k listed a _ hB h => ⟨by simpa [Region.lexFrom] using hB, h⟩
  | cons o l ih =>
    intro k listed a hl hB h
    have h0 : ops[k]? = some o := by simpa using (hl 0).symm
    simp only [List.length_cons, Region.lexFrom, Bool.and_eq_true] at hB
    obtain ⟨⟨hr, hf⟩, hB'⟩ := hB
    obtain ⟨S, hne, hH, hK⟩ := h
    exact Any.first h0 (Region.noSelect_spec hs) hne l.length listed a (Region.free_spec h0 hf) (by simpa using hr) hH
      (fun v hv => ih (k + 1) _ _ (fun j => by have := hl (j + 1); simpa [Nat.add_assoc, Nat.add_comm 1 j] using this) hB' (hK v hv))

/-- The region, walked once, in the order of the text; behind it w after some draws. -/
theorem region {id : Nat} {Q : Exit → Act → World → Prop} {a : Act} {w : World} {l : List Oper} (c : Nat → Value → Prop) (hm : P.follows .mixedOrders = true) (hB : Region.lexB .any l.toArray = true)
    (h : Lex P l.toArray (fun w' => ∃ n, w' = w.drewN n) c (fun a' => ∀ n, Q .normal a' (w.drewN n)) 0 l a) : (Code.region id l.toArray true).wp P Q a w := by
  simp only [Region.lexB, Bool.and_eq_true] at hB
  refine wp_region_any hm (Any.wpAny (C := fun w' => ∃ n, w' = w.drewN n) (c := c) (Q := fun a' => ∀ n, Q .normal a' (w.drewN n)) (fun a' w' hw' h => by obtain ⟨n, rfl⟩ := hw'; exact h n) _ _ _ _ ⟨1, rfl⟩ ?_)
  have := Lex.any (md := .any) hB.1 l 0 (Array.replicate l.toArray.size false) a (by simp) (by simpa using hB.2) h
  simpa using this
end

/-! ### The steps -/
section
variable {P : Program} {ops : Array Oper} {C : World → Prop} {c : Nat → Value → Prop} {Q : Act → Prop} {k : Nat} {o : Oper} {rest : List Oper} {a : Act}
open Fl

theorem done (h : Q a) : Lex P ops C c Q k [] a := h
/-- An operation that is not asked for. -/
theorem skip (hg : Region.wanted o (yielded ops a.tmps) = false) (h : Lex P ops C c Q (k + 1) rest (a.put o.dst undef)) : Lex P ops C c Q k (o :: rest) a :=
  ⟨(· = undef), ⟨_, rfl⟩, ⟨fun h' => (by rw [hg] at h'; cases h'), fun _ => rfl⟩, fun _ hv => by subst hv; exact h⟩
/-- An operation that yields one value. -/
theorem val (hg : Region.wanted o (yielded ops a.tmps) = true) {v : Value} (hr : ∀ w, C w → (execOp a.eval o).run P w = .ok (.value v) w) (h : Lex P ops C c Q (k + 1) rest (a.put o.dst v)) : Lex P ops C c Q k (o :: rest) a :=
  ⟨(· = v), ⟨_, rfl⟩, ⟨fun _ w hw => by rw [hr w hw]; exact ⟨hw, rfl⟩, fun h' => (by rw [hg] at h'; cases h')⟩, fun _ hv => by subst hv; exact h⟩
/-- An operation that yields one of the values of S. -/
theorem one (hg : Region.wanted o (yielded ops a.tmps) = true) {S : Value → Prop} (hne : ∃ v, S v) (hr : ∀ w, C w → ∃ v w', (execOp a.eval o).run P w = .ok (.value v) w' ∧ S v ∧ C w') (h : ∀ v, S v → Lex P ops C c Q (k + 1) rest (a.put o.dst v)) : Lex P ops C c Q k (o :: rest) a :=
  ⟨S, hne, ⟨fun _ w hw => by obtain ⟨v, w', e, h1, h2⟩ := hr w hw; rw [e]; exact ⟨h2, h1⟩, fun h' => (by rw [hg] at h'; cases h')⟩, h⟩
/-- A call. -/
theorem call (hg : Region.wanted o (yielded ops a.tmps) = true) (hne : ∃ v, c k v) {f : FuncId} {args : Array Value} (hr : ∀ w, (execOp a.eval o).run P w = .ok (.enter f args) w)
    (hc : ∀ w, C w → Calls P f args w fun e w'' => ∃ v, e = .returned v ∧ c k v ∧ C w'') (h : ∀ v, c k v → Lex P ops C c Q (k + 1) rest (a.put o.dst v)) : Lex P ops C c Q k (o :: rest) a :=
  ⟨c k, hne, ⟨fun _ w hw => by rw [hr w]; exact ⟨hc w hw, fun _ h => h⟩, fun h' => (by rw [hg] at h'; cases h')⟩, h⟩
theorem move (hg : Region.wanted o (yielded ops a.tmps) = true) {x : Operand} (ho : o.op = .move x) (h : Lex P ops C c Q (k + 1) rest (a.put o.dst (a.eval x))) : Lex P ops C c Q k (o :: rest) a :=
  val hg (fun w _ => by simp only [execOp, ho]; rfl) h
theorem assign (hg : Region.wanted o (yielded ops a.tmps) = true) {x : Operand} (ho : o.op = .assign x) (h : Lex P ops C c Q (k + 1) rest (a.put o.dst (a.eval x))) : Lex P ops C c Q k (o :: rest) a :=
  val hg (fun w _ => by simp only [execOp, ho]; rfl) h

/-- The operations that hand back a value of their own. -/
def plainOp : Op → Bool
  | .move .. => true
  | .assign .. => true
  | .load .. => true
  | .binOp .. => true
  | .unOp .. => true
  | .convert .. => true
  | .fieldAddr .. => true
  | .field .. => true
  | .indexAddr .. => true
  | .index .. => true
  | .extract .. => true
  | _ => false
theorem value_run {s : Sem Value} {w w' : World} {n : Next} (h : (do pure (Next.value (← s)) : Sem Next).run P w = .ok n w') : ∃ v, n = .value v := by
  rw [Sem.run_bind] at h
  cases hs : s.run P w with
  | halt x w1 => rw [hs] at h; cases x <;> cases h
  | ok v w1 =>
    rw [hs] at h
    simp only [Result.andThen_ok, Sem.run_pure] at h
    cases h
    exact ⟨v, rfl⟩
theorem plain_value (hp : plainOp o.op = true) {w w' : World} {n : Next} (h : (execOp a.eval o).run P w = .ok n w') : ∃ v, n = .value v := by
  unfold execOp at h
  obtain ⟨dst, op, type, pos, after, guard⟩ := o
  cases op <;> first | (exact value_run h) | (exact ⟨_, (Next.value.inj (by cases h; rfl)) ▸ rfl⟩) | (cases h; exact ⟨_, rfl⟩) | (cases hp)
/-- An operation that the kit's quiet walk runs. -/
theorem quiet (hg : Region.wanted o (yielded ops a.tmps) = true) (hp : plainOp o.op = true) (h : ∀ K : Act → Prop, (∀ a, Lex P ops C c Q (k + 1) rest a → K a) → o.quiet P a C K) : Lex P ops C c Q k (o :: rest) a := by
  obtain ⟨v, h1, h2⟩ := h _ (fun _ h => h)
  refine ⟨(· = v), ⟨_, rfl⟩, ⟨fun _ w hw => ?_, fun h' => (by rw [hg] at h'; cases h')⟩, fun _ hv => by subst hv; exact h2⟩
  have h3 := h1 w hw
  unfold Oper.quietAt at h3
  cases hr : (execOp a.eval o).run P w with
  | halt x w' => rw [hr] at h3; cases x <;> exact h3.elim
  | ok n w' =>
    obtain ⟨u, rfl⟩ := plain_value hp hr
    rw [hr] at h3
    obtain ⟨e1, e2⟩ := h3
    subst e1
    exact ⟨hw, e2⟩

/-- '+', '-', '*', '/' of floats. -/
theorem far {w0 : World} (hg : Region.wanted o (yielded ops a.tmps) = true) {op : BinOp} {t t' : TypeId} {x y : Operand} (ho : o.op = .binOp op t x y t') (hop : Arith op) {kd : FloatKind} {bx by' : Nat}
    (hx : a.eval x = .float kd bx) (hy : a.eval y = .float kd by') {vx vy : Option Nat} (fx : IsF kd bx vx) (fy : IsF kd by' vy)
    (h : ∀ r, IsF kd r (ar op kd vx vy) → Lex P ops (fun w' => ∃ n, w' = w0.drewN n) c Q (k + 1) rest (a.put o.dst (.float kd r))) : Lex P ops (fun w' => ∃ n, w' = w0.drewN n) c Q k (o :: rest) a := by
  have hrun : ∀ w : World, ∃ r n, (execOp a.eval o).run P w = .ok (.value (.float kd r)) (w.drewN n) ∧ IsF kd r (ar op kd vx vy) := by
    intro w
    obtain ⟨r, n, hr, hf⟩ := run_ar (P := P) w hop kd fx fy
    refine ⟨r, n, ?_, hf⟩
    have hb : (binOp op t (.float kd bx) (.float kd by')).run P w = .ok (.float kd r) (w.drewN n) := by
      rcases hop with rfl | rfl | rfl | rfl <;> simpa [binOp] using hr
    have hq : (eqGuard op t x y (.float kd bx) (.float kd by')).run P w = .ok () w := by
      rcases hop with rfl | rfl | rfl | rfl <;> simp [eqGuard]
    simp only [execOp, ho, hx, hy, Sem.run_bind, hq, hb, Result.andThen_ok, Sem.run_pure]
  refine one hg (S := fun v => ∃ r, v = .float kd r ∧ IsF kd r (ar op kd vx vy)) ?_ ?_ ?_
  · obtain ⟨r, n, _, hf⟩ := hrun w0
    exact ⟨_, r, rfl, hf⟩
  · rintro w ⟨m, rfl⟩
    obtain ⟨r, n, hr, hf⟩ := hrun (w0.drewN m)
    exact ⟨_, _, hr, ⟨r, rfl, hf⟩, m + n, by rw [World.drewN_drewN]⟩
  · rintro v ⟨r, rfl, hf⟩
    exact h r hf
/-- A comparison of floats. -/
theorem fcmp (hg : Region.wanted o (yielded ops a.tmps) = true) {op : BinOp} {t t' : TypeId} {x y : Operand} (ho : o.op = .binOp op t x y t') (hop : Cmp op) {kd : FloatKind} {bx by' : Nat}
    (hx : a.eval x = .float kd bx) (hy : a.eval y = .float kd by') {vx vy : Option Nat} (fx : IsF kd bx vx) (fy : IsF kd by' vy) {b : Bool} (hb : cmpF op kd vx vy = b)
    (h : Lex P ops C c Q (k + 1) rest (a.put o.dst (.bool b))) : Lex P ops C c Q k (o :: rest) a := by
  refine val hg (fun w _ => ?_) h
  have hr : (binOp op t (.float kd bx) (.float kd by')).run P w = .ok (.bool b) w := by
    have e := ord_spec fx fy
    rw [← hb]
    rcases hop with rfl | rfl | rfl | rfl | rfl | rfl <;> simp [binOp, Op.floatCmp, cmpF, e]
  have hq : (eqGuard op t x y (.float kd bx) (.float kd by')).run P w = .ok () w := by
    rcases hop with rfl | rfl | rfl | rfl | rfl | rfl <;> simp [eqGuard]
  simp only [execOp, ho, hx, hy, Sem.run_bind, hq, hr, Result.andThen_ok, Sem.run_pure]
/-- A component of a tuple. -/
theorem extract (hg : Region.wanted o (yielded ops a.tmps) = true) {x : Operand} {i : Nat} (ho : o.op = .extract x i) {vs : Array Value} {v : Value} (hx : a.eval x = .tuple vs) (hv : vs[i]? = some v)
    (h : Lex P ops C c Q (k + 1) rest (a.put o.dst v)) : Lex P ops C c Q k (o :: rest) a := by
  refine val hg (fun w _ => ?_) h
  simp only [execOp, ho, hx, Instr.extract, hv, Sem.run_bind, Sem.run_pure, Result.andThen_ok]
end
end Rq
end Go.Proofs.Ytndfpgcaooldkaa
