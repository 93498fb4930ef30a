/- Walks whose frame is told by a list of slots: what a step costs does not hang on how great the frame is. Nothing here speaks of one function. Each lemma states its own conditions. -/
import Derived.Test.YtgkpplbomciehaaCdt06
import Derived.Still
import Derived.StillTail
import Derived.LoopN
import Derived.Orders
namespace Go.Proofs.Ytgkpplbomciehaa
open Go.RowKit
/-- truths, written out as what they say -/
theorem sB : (∀ a b : Bool, ((a || b) = true) = (a = true ∨ b = true)) ∧ (∀ a b : Bool, ((a && b) = true) = (a = true ∧ b = true)) ∧ (∀ a : Bool, ((!a) = true) = (a = false)) ∧ (∀ a b : Bool, ((a || b) = false) = (a = false ∧ b = false)) ∧ (∀ a b : Bool, ((a && b) = false) = (a = false ∨ b = false)) ∧ (∀ a : Bool, ((!a) = false) = (a = true)) ∧
    (∀ (p : Prop) [Decidable p], (decide p = true) = p) ∧ (∀ (p : Prop) [Decidable p], (decide p = false) = ¬ p) ∧ (∀ a b : Int, ((a == b) = true) = (a = b)) ∧ (∀ a b : Int, ((a != b) = true) = ¬ a = b) ∧ (∀ a b : Int, ((a == b) = false) = ¬ a = b) ∧ (∀ a b : Int, ((a != b) = false) = (a = b)) := by simp
/-- what a slot holds, by a list of slots -/
def lk (n : Nat) : List (Nat × Value) → Option Value
  | [] => none
  | (m, v) :: l => cond (Nat.beq m n) (some v) (lk n l)
/-- a frame of so many slots holds what a list tells -/
def AtF (N : Nat) (s : List (Nat × Value)) (a : Act) : Prop := a.tmps.size = N ∧ a.defers = [] ∧ ∀ n v, lk n s = some v → a.tmps[n]? = some v
def evl (s : List (Nat × Value)) : Operand → Value
  | .tmp t => (lk t s).getD undef
  | .const v => v
  | .global g => .pointer (some ⟨g, 0, none⟩)
  | .func f => .func (.func f) #[] #[]
def knows (s : List (Nat × Value)) : Operand → Bool
  | .tmp t => (lk t s).isSome
  | _ => true
def noSel : Op → Bool
  | .select _ _ => false
  | _ => true
def asB : Value → Option Bool
  | .bool b => some b
  | _ => none
/-- is an operation done? -/
def wantL (ops : Array Oper) (s : List (Nat × Value)) (o : Oper) : Option Bool :=
  match o.guard with
  | none => some true
  | some (j, t) => match (ops[j]?).bind (·.dst) with
    | none => some false
    | some d => match lk d s with
      | none => none
      | some v => some (asB v == some t)
/-- may an operation that is done be reckoned by the list? -/
def okOp (ops : Array Oper) (s : List (Nat × Value)) (o : Oper) : Bool := (wantL ops s o == some true) && (noSel o.op && o.op.operands.all (knows s))
def okDst (N : Nat) (o : Oper) : Option Tmp → Bool
  | some d => (o.dst == some d) && Nat.blt d N
  | none => o.dst == none
def putS (d : Option Tmp) (v : Value) (s : List (Nat × Value)) : List (Nat × Value) :=
  match d with
  | some d => (d, v) :: s
  | none => s
section
variable {N : Nat} {s : List (Nat × Value)} {a : Act} {o : Oper} {ops : Array Oper}
theorem AtF.put (h : AtF N s a) {d : Option Tmp} (hd : okDst N o d = true) (v : Value) : AtF N (putS d v s) (a.put d v) := by
  cases d with
  | none => exact h
  | some d =>
    obtain ⟨h1, h2, h3⟩ := h
    have hd : Nat.blt d N = true := by
      unfold okDst at hd
      rw [Bool.and_eq_true] at hd
      exact hd.2
    have hdN : d < N := by
      unfold Nat.blt at hd
      exact Nat.le_of_ble_eq_true hd
    refine ⟨by simp [Act.put, h1], h2, fun n u hn => ?_⟩
    unfold putS at hn
    rw [lk] at hn
    show (a.tmps.setIfInBounds d v)[n]? = some u
    rw [Array.getElem?_setIfInBounds]
    cases hb : Nat.beq d n with
    | true =>
      rw [hb] at hn
      have := Nat.eq_of_beq_eq_true hb
      subst this
      rw [if_pos rfl, if_pos (by rw [h1]; exact hdN)]
      exact hn
    | false =>
      rw [hb] at hn
      rw [if_neg (Nat.ne_of_beq_eq_false hb)]
      exact h3 n u hn
theorem AtF.eval (h : AtF N s a) {x : Operand} (hx : knows s x = true) : a.eval x = evl s x := by
  cases x with
  | tmp t =>
    dsimp only [knows] at hx
    cases ht : lk t s with
    | none => rw [ht] at hx; cases hx
    | some v =>
      show a.tmps.getD t undef = (lk t s).getD undef
      rw [ht, Array.getD_eq_getD_getElem?, h.2.2 t v ht]
  | const v => rfl
  | global g => rfl
  | func f => rfl
theorem okDst_dst {N : Nat} {d : Option Tmp} (h : okDst N o d = true) : o.dst = d := by
  cases d with
  | none => unfold okDst at h; simpa using h
  | some d =>
    unfold okDst at h
    rw [Bool.and_eq_true] at h
    simpa using h.1
theorem AtF.exec (h : AtF N s a) (hk : okOp ops s o = true) : execOp a.eval o = execOp (evl s) o := by
  unfold okOp at hk
  rw [Bool.and_eq_true, Bool.and_eq_true] at hk
  refine execOp_congr o (fun cs b hb => ?_) fun x hx => h.eval ?_
  · rw [hb] at hk
    exact Bool.noConfusion hk.2.1
  · exact Array.all_eq_true'.1 hk.2.2 x hx
theorem AtF.want (h : AtF N s a) {b : Bool} (hw : wantL ops s o = some b) : Region.wanted o (yielded ops a.tmps) = b := by
  unfold wantL at hw
  unfold Region.wanted
  cases hg : o.guard with
  | none => rw [hg] at hw; exact Option.some.inj hw
  | some jt =>
    obtain ⟨j, t⟩ := jt
    rw [hg] at hw
    dsimp only at hw ⊢
    unfold yielded
    cases hd : (ops[j]?).bind (·.dst) with
    | none => rw [hd] at hw; exact Option.some.inj hw
    | some d =>
      rw [hd] at hw
      dsimp only at hw
      cases hl : lk d s with
      | none => rw [hl] at hw; cases hw
      | some v =>
        rw [hl] at hw
        rw [Option.bind_some, h.2.2 d v hl]
        have := Option.some.inj hw
        rw [← this]
        cases v <;> rfl
theorem AtF.done (h : AtF N s a) (hk : okOp ops s o = true) : Region.wanted o (yielded ops a.tmps) = true := by
  unfold okOp at hk
  rw [Bool.and_eq_true] at hk
  exact h.want (by simpa using hk.1)
end
/-- a list of operations, walked by slots -/
structure WA (P : Program) (ops : Array Oper) (Q : Exit → Act → World → Prop) (rest : List Oper) (N : Nat) (s : List (Nat × Value)) (w : World) : Prop where
  out : ∀ a, AtF N s a → wpList P ops Q rest a w
/-- .. that leave the world as it is -/
structure WS (P : Program) (ops : Array Oper) (Q : Act → Prop) (rest : List Oper) (N : Nat) (s : List (Nat × Value)) (w : World) : Prop where
  out : ∀ a, AtF N s a → wpStill P ops w Q rest a
/-- a piece of code, walked by slots -/
structure CA (P : Program) (c : Code) (Q : Exit → Act → World → Prop) (N : Nat) (s : List (Nat × Value)) (w : World) : Prop where
  out : ∀ a, AtF N s a → c.wp P Q a w
/-- what holds where a piece of code is left -/
structure LA (Q : Exit → Act → World → Prop) (e : Exit) (N : Nat) (s : List (Nat × Value)) (w : World) : Prop where
  out : ∀ a, AtF N s a → Q e a w
section
variable {P : Program} {ops : Array Oper} {Q : Exit → Act → World → Prop} {rest : List Oper} {o : Oper} {N : Nat} {s : List (Nat × Value)} {w w' : World}
theorem wa_to (d : Option Tmp) (v : Value) (hd : okDst N o d = true) (hk : okOp ops s o = true) (hrun : (execOp (evl s) o).run P w = .ok (.value v) w') (h : WA P ops Q rest N (putS d v s) w') : WA P ops Q (o :: rest) N s w :=
  ⟨fun a ha => wpList_step fun K hK => by
    rw [if_pos (ha.done hk)]
    unfold Oper.wp
    rw [ha.exec hk, hrun, Oper.upon_value]
    exact hK _ _ (by rw [okDst_dst hd]; exact h.out _ (ha.put hd v))⟩
theorem wa_do (d : Option Tmp) (v : Value) (hd : okDst N o d = true) (hk : okOp ops s o = true) (hrun : (execOp (evl s) o).run P w = .ok (.value v) w) (h : WA P ops Q rest N (putS d v s) w) : WA P ops Q (o :: rest) N s w := wa_to d v hd hk hrun h
theorem wa_st (d : Option Tmp) (hd : okDst N o d = true) (hk : okOp ops s o = true) (hrun : (execOp (evl s) o).run P w = .ok .skip w') (h : WA P ops Q rest N (putS d undef s) w') : WA P ops Q (o :: rest) N s w :=
  ⟨fun a ha => wpList_step fun K hK => by
    rw [if_pos (ha.done hk)]
    unfold Oper.wp
    rw [ha.exec hk, hrun, Oper.upon_skip]
    exact hK _ _ (by rw [okDst_dst hd]; exact h.out _ (ha.put hd undef))⟩
theorem wa_skip (d : Option Tmp) (hd : okDst N o d = true) (hw : wantL ops s o = some false) (h : WA P ops Q rest N (putS d undef s) w) : WA P ops Q (o :: rest) N s w :=
  ⟨fun a ha => wpList_step fun K hK => by
    rw [if_neg (by rw [ha.want hw]; decide)]
    exact hK _ _ (by rw [okDst_dst hd]; exact h.out _ (ha.put hd undef))⟩
theorem wa_call (d : Option Tmp) (hd : okDst N o d = true) (hk : okOp ops s o = true) (f : FuncId) (args : Array Value) (hrun : (execOp (evl s) o).run P w = .ok (.enter f args) w) {R : Ending → World → Prop} (hc : Calls P f args w R)
    (h : ∀ e w', R e w' → ∃ v, e = .returned v ∧ WA P ops Q rest N (putS d v s) w') : WA P ops Q (o :: rest) N s w :=
  ⟨fun a ha => lw_call d (okDst_dst hd) (ha.done hk) f args (by rw [ha.exec hk]; exact hrun) hc fun e w' hR => by
    obtain ⟨v, he, hW⟩ := h e w' hR
    exact ⟨v, he, hW.out _ (ha.put hd v)⟩⟩
theorem wa_nil (h : LA Q .normal N s w) : WA P ops Q [] N s w := ⟨h.out⟩
/-- operations that are reckoned one behind the other -/
def quietA (P : Program) (ops : Array Oper) (N : Nat) : Nat → List Oper → List (Nat × Value) → World → Option (List (Nat × Value) × World)
  | 0, _, s, w => some (s, w)
  | _ + 1, [], _, _ => none
  | n + 1, o :: rest, s, w =>
    cond (okDst N o o.dst)
      (match wantL ops s o with
      | none => none
      | some false => quietA P ops N n rest (putS o.dst undef s) w
      | some true => cond (okOp ops s o)
        (match (execOp (evl s) o).run P w with
        | .ok (.value v) w' => quietA P ops N n rest (putS o.dst v s) w'
        | _ => none) none) none
/-- one operation that is done and leaves the world as it is -/
def stepA (P : Program) (ops : Array Oper) (N : Nat) (s : List (Nat × Value)) (o : Oper) (d : Option Tmp) (w : World) : Option (Value × World) :=
  cond (okDst N o d && okOp ops s o) (match (execOp (evl s) o).run P w with
    | .ok (.value v) w' => some (v, w')
    | _ => none) none
theorem stepA_is {d : Option Tmp} {v : Value} (h : stepA P ops N s o d w = some (v, w')) : okDst N o d = true ∧ okOp ops s o = true ∧ (execOp (evl s) o).run P w = .ok (.value v) w' := by
  unfold stepA at h
  cases hb : (okDst N o d && okOp ops s o) with
  | false => rw [hb] at h; cases h
  | true =>
    rw [hb, cond_true] at h
    rw [Bool.and_eq_true] at hb
    split at h
    · rename_i v2 w2 hrun
      injection h with h
      injection h with h1 h2
      subst h1 h2
      exact ⟨hb.1, hb.2, hrun⟩
    · cases h
theorem wa_w (d : Option Tmp) (v : Value) (w' : World) (h : stepA P ops N s o d w = some (v, w')) (h2 : WA P ops Q rest N (putS d v s) w') : WA P ops Q (o :: rest) N s w :=
  wa_to d v (stepA_is h).1 (stepA_is h).2.1 (stepA_is h).2.2 h2
theorem wa_q (d : Option Tmp) (v : Value) (h : stepA P ops N s o d w = some (v, w)) (h2 : WA P ops Q rest N (putS d v s) w) : WA P ops Q (o :: rest) N s w := wa_w d v w h h2
def okArgs (s : List (Nat × Value)) (o : Oper) : Bool := noSel o.op && o.op.operands.all (knows s)
theorem okOp_of {B : Bool} (hB : B = true) (hw : wantL ops s o = some B) (hk : okArgs s o = true) : okOp ops s o = true := by
  unfold okOp
  rw [hw, hB]
  unfold okArgs at hk
  rw [hk]
  rfl
theorem wa_if (d : Option Tmp) (B : Bool) (v : Value) (hd : okDst N o d = true) (hk : okArgs s o = true) (hw : wantL ops s o = some B) (hrun : B = true → (execOp (evl s) o).run P w = .ok (.value v) w) (h : WA P ops Q rest N (putS d (cond B v undef) s) w) : WA P ops Q (o :: rest) N s w := by
  cases B with
  | true => exact wa_to d v hd (okOp_of rfl hw hk) (hrun rfl) h
  | false => exact wa_skip d hd hw h
theorem wa_callif (d : Option Tmp) (B : Bool) (v : Value) (hd : okDst N o d = true) (hk : okArgs s o = true) (hw : wantL ops s o = some B) (f : FuncId) (args : Array Value) (hrun : B = true → (execOp (evl s) o).run P w = .ok (.enter f args) w) (hc : Calls P f args w fun r w' => r = .returned v ∧ Bel w w')
    (h : ∀ w', Bel w w' → WA P ops Q rest N (putS d (cond B v undef) s) w') : WA P ops Q (o :: rest) N s w := by
  cases B with
  | true => exact wa_call d hd (okOp_of rfl hw hk) f args (hrun rfl) hc fun e w' hR => ⟨v, hR.1, h w' hR.2⟩
  | false => exact wa_skip d hd hw (h w (Bel.rfl_ w))
theorem wa_sy (d : Option Tmp) (v : Value) (hd : okDst N o d = true) (hk : okOp ops s o = true) (f : FuncId) (args : Array Value) (hrun : (execOp (evl s) o).run P w = .ok (.enter f args) w) (hc : Calls P f args w fun r w' => r = .returned v ∧ Bel w w')
    (h : ∀ w', Bel w w' → WA P ops Q rest N (putS d v s) w') : WA P ops Q (o :: rest) N s w :=
  wa_call d hd hk f args hrun hc fun _e w' hR => ⟨v, hR.1, h w' hR.2⟩
theorem ws_do {Q : Act → Prop} (d : Option Tmp) (v : Value) (hd : okDst N o d = true) (hk : okOp ops s o = true) (hrun : (execOp (evl s) o).run P w = .ok (.value v) w) (h : WS P ops Q rest N (putS d v s) w) : WS P ops Q (o :: rest) N s w :=
  ⟨fun a ha => wpStill_step fun K hK => by
    rw [if_pos (ha.done hk)]
    unfold Oper.still
    rw [ha.exec hk, hrun, Oper.stillUpon_value]
    exact hK _ (by rw [okDst_dst hd]; exact h.out _ (ha.put hd v))⟩
theorem ws_skip {Q : Act → Prop} (d : Option Tmp) (hd : okDst N o d = true) (hw : wantL ops s o = some false) (h : WS P ops Q rest N (putS d undef s) w) : WS P ops Q (o :: rest) N s w :=
  ⟨fun a ha => wpStill_step fun K hK => by
    rw [if_neg (by rw [ha.want hw]; decide)]
    exact hK _ (by rw [okDst_dst hd]; exact h.out _ (ha.put hd undef))⟩
theorem ws_q {Q : Act → Prop} (d : Option Tmp) (v : Value) (h : stepA P ops N s o d w = some (v, w)) (h2 : WS P ops Q rest N (putS d v s) w) : WS P ops Q (o :: rest) N s w :=
  ws_do d v (stepA_is h).1 (stepA_is h).2.1 (stepA_is h).2.2 h2
theorem ws_tail (h : WA P ops Q rest N s w) : WS P ops (fun a => wpList P ops Q rest a w) [] N s w := ⟨h.out⟩
theorem ws_all (h : LA Q .normal N s w) : WS P ops (fun a => Q .normal a w) [] N s w := ⟨h.out⟩
end
section
variable {P : Program} {Q : Exit → Act → World → Prop} {N : Nat} {s : List (Nat × Value)} {w : World} {x y c : Code} {K : Act → World → Prop}
theorem ca_region {id : Nat} {l : List Oper} (h : WA P l.toArray Q l N s w) : CA P (.region id l.toArray false) Q N s w := ⟨fun a ha => wp_region_lit (h.out a ha)⟩
theorem ca_still {id : Nat} {l : List Oper} (hm : P.follows .mixedOrders = true) (hB : Region.lexB .any l.toArray = true) (h : WS P l.toArray (fun a => Q .normal a w.drew) l N s w.drew) : CA P (.region id l.toArray true) Q N s w :=
  ⟨fun a ha => wp_region_still_lit hm hB (h.out a ha)⟩
theorem ca_tail {id : Nat} {l : List Oper} (n : Nat) (hm : P.follows .mixedOrders = true) (hB : Region.lexTailB .any l.toArray n = true) (h : WS P l.toArray (fun a => wpList P l.toArray Q (l.drop n) a w.drew) (l.take n) N s w.drew) : CA P (.region id l.toArray true) Q N s w :=
  ⟨fun a ha => wp_region_still_tail n hm hB (h.out a ha)⟩
theorem ca_seq (h : CA P x (Exit.then (y.wp P Q) Q) N s w) : CA P (.seq x y) Q N s w := ⟨fun a ha => wp_seq (h.out a ha)⟩
theorem ca_block {id : Nat} (h : CA P c (Exit.inBlock id Q) N s w) : CA P (.block id c) Q N s w := ⟨fun a ha => wp_block (h.out a ha)⟩
theorem ca_true {t : Operand} (hk : knows s t = true) (hv : evl s t = .bool true) (h : CA P x Q N s w) : CA P (.cond t x y) Q N s w := ⟨fun a ha => wp_cond_true (by rw [ha.eval hk, hv]) (h.out a ha)⟩
theorem ca_false {t : Operand} (hk : knows s t = true) (hv : evl s t = .bool false) (h : CA P y Q N s w) : CA P (.cond t x y) Q N s w := ⟨fun a ha => wp_cond_false (by rw [ha.eval hk, hv]) (h.out a ha)⟩
theorem ca_skip (h : LA Q .normal N s w) : CA P .skip Q N s w := ⟨fun a ha => wp_skip (h.out a ha)⟩
theorem ca_exit {id : Nat} (h : LA Q (.exit id) N s w) : CA P (.exit id) Q N s w := ⟨fun a ha => wp_exit (h.out a ha)⟩
theorem ca_ret (h : LA Q .ret N s w) : CA P .ret Q N s w := ⟨fun a ha => wp_ret (h.out a ha)⟩
theorem la_code (h : CA P y Q N s w) : LA (Exit.then (y.wp P Q) Q) .normal N s w := ⟨fun a ha => h.out a ha⟩
theorem la_then_exit {id : Nat} (h : LA Q (.exit id) N s w) : LA (Exit.then K Q) (.exit id) N s w := ⟨fun a ha => h.out a ha⟩
theorem la_then_ret (h : LA Q .ret N s w) : LA (Exit.then K Q) .ret N s w := ⟨fun a ha => h.out a ha⟩
theorem la_block_normal {id : Nat} (h : LA Q .normal N s w) : LA (Exit.inBlock id Q) .normal N s w := ⟨fun a ha => h.out a ha⟩
theorem la_block_ret {id : Nat} (h : LA Q .ret N s w) : LA (Exit.inBlock id Q) .ret N s w := ⟨fun a ha => h.out a ha⟩
theorem la_block_hit {id : Nat} (h : LA Q .normal N s w) : LA (Exit.inBlock id Q) (.exit id) N s w := ⟨fun a ha => by unfold Exit.inBlock; dsimp only; rw [if_pos rfl]; exact h.out a ha⟩
theorem la_block_miss {id i : Nat} (hi : Nat.beq i id = false) (h : LA Q (.exit i) N s w) : LA (Exit.inBlock id Q) (.exit i) N s w := ⟨fun a ha => by unfold Exit.inBlock; dsimp only; rw [if_neg (Nat.ne_of_beq_eq_false hi)]; exact h.out a ha⟩
/-- of a list of slots those of some numbers -/
def keepS (s : List (Nat × Value)) : List Nat → Option (List (Nat × Value))
  | [] => some []
  | n :: ns => match lk n s, keepS s ns with
    | some v, some l => some ((n, v) :: l)
    | _, _ => none
theorem keepS_lk {s : List (Nat × Value)} : ∀ {ns : List Nat} {s' : List (Nat × Value)}, keepS s ns = some s' → ∀ n v, lk n s' = some v → lk n s = some v
  | [], s', h, n, v, hn => by
    unfold keepS at h
    injection h with h
    subst h
    cases hn
  | m :: ns, s', h, n, v, hn => by
    unfold keepS at h
    split at h
    · rename_i u l h1 h2
      injection h with h
      subst h
      rw [lk] at hn
      cases hb : Nat.beq m n with
      | true =>
        rw [hb] at hn
        have := Nat.eq_of_beq_eq_true hb
        subst this
        rw [h1]
        exact hn
      | false =>
        rw [hb] at hn
        exact keepS_lk h2 n v hn
    · cases h
theorem AtF.sub {a : Act} {s' : List (Nat × Value)} {ns : List Nat} (h : AtF N s a) (hk : keepS s ns = some s') : AtF N s' a := ⟨h.1, h.2.1, fun n v hn => h.2.2 n v (keepS_lk hk n v hn)⟩
/-- a cut: what holds behind a piece of code, said once -/
theorem ca_cut {α : Type} (R : α → World → Prop) (L : α → List (Nat × Value)) (hx : CA P x (Exit.then (fun a w' => ∃ i, R i w' ∧ AtF N (L i) a) Q) N s w) (hy : ∀ i w', R i w' → CA P y Q N (L i) w') : CA P (.seq x y) Q N s w :=
  ca_seq ⟨fun a ha => Code.wp_mono (fun e a' w' hq => by
    cases e with
    | normal =>
      obtain ⟨i, hR, hA⟩ := hq
      exact (hy i w' hR).out a' hA
    | exit id => exact hq
    | goto l => exact hq
    | ret => exact hq
    | panic ch => exact hq
    | outgrown => exact hq) (hx.out a ha)⟩
theorem la_meet {α : Type} {R : α → World → Prop} {L : α → List (Nat × Value)} (i : α) (ns : List Nat) (hk : keepS s ns = some (L i)) (hR : R i w) : LA (Exit.then (fun a w' => ∃ i, R i w' ∧ AtF N (L i) a) Q) .normal N s w := ⟨fun _a ha => ⟨i, hR, ha.sub hk⟩⟩
/-- a loop -/
theorem ca_loop {α : Type} (I : α → World → Prop) (L : α → List (Nat × Value)) (μ : α → Nat) (i0 : α) (ns : List Nat) (hk : keepS s ns = some (L i0)) (h0 : I i0 w)
    (hround : ∀ i w, I i w → CA P c (Exit.then (fun a w' => ∃ i', (I i' w' ∧ μ i' < μ i) ∧ AtF N (L i') a) Q) N (L i) w) : CA P (.loop c) Q N s w :=
  ⟨fun a ha => by
    refine wp_loop_rounds (μ i0 + 1) ?_
    have key : ∀ (n : Nat) (i : α) (a : Act) (w : World), I i w → μ i < n → AtF N (L i) a → Code.rounds P c Q n a w := by
      intro n
      induction n with
      | zero => intro i a w _ h; omega
      | succ n ih =>
        intro i a w hI hm hA
        rw [rounds_succ]
        refine Code.wp_mono (fun e a' w' hq => ?_) ((hround i w hI).out a hA)
        cases e with
        | normal =>
          obtain ⟨i', ⟨hI', hlt⟩, hA'⟩ := hq
          exact ih i' a' w' hI' (by omega) hA'
        | exit id => exact hq
        | goto l => exact hq
        | ret => exact hq
        | panic ch => exact hq
        | outgrown => exact hq
    exact key _ i0 a w h0 (Nat.lt_succ_self _) (ha.sub hk)⟩
/-- what a frame holds at the beginning -/
def argS : List Value → Nat → List (Nat × Value)
  | [], _ => []
  | v :: vs, i => (i, v) :: argS vs (i + 1)
theorem argS_lk : ∀ (vs : List Value) (i n : Nat) (v : Value), lk n (argS vs i) = some v → i ≤ n ∧ vs[n - i]? = some v
  | [], _, _, _, h => by cases h
  | u :: vs, i, n, v, h => by
    rw [argS, lk] at h
    cases hb : Nat.beq i n with
    | true =>
      rw [hb] at h
      have := Nat.eq_of_beq_eq_true hb
      subst this
      exact ⟨Nat.le_refl _, by rw [Nat.sub_self]; exact h⟩
    | false =>
      rw [hb] at h
      obtain ⟨h1, h2⟩ := argS_lk vs (i + 1) n v h
      refine ⟨by omega, ?_⟩
      rw [show n - i = n - (i + 1) + 1 by omega]
      exact h2
theorem af_enter {f : FuncId} {fn : Func} {args : List Value} {R : Ending → World → Prop} (hf : P.funcs[f]? = some fn) (hb : fn.body = some c) (hN : fn.ntmps = N) (hs : Nat.ble args.length N = true) (h : CA P c (bodyPost P fn R) N (argS args 0) w) : Calls P f args.toArray w R := by
  refine calls_of_wp hf hb (h.out _ ⟨?_, rfl, fun n v hn => ?_⟩)
  · have := Nat.le_of_ble_eq_true hs
    simp [hN]
    omega
  · obtain ⟨-, h2⟩ := argS_lk _ _ _ _ hn
    have hlt := (List.getElem?_eq_some_iff.1 h2).1
    show (args.toArray ++ _)[n]? = some v
    rw [Array.getElem?_append_left (by simpa using hlt)]
    simpa using h2
theorem la_end0 {fn : Func} {R : Ending → World → Prop} (hr : fn.results = #[]) (h : R (.returned (.tuple #[])) w) : LA (bodyPost P fn R) .normal N s w :=
  ⟨fun a ha => ⟨ha.2.1, _, by simp [results, hr, Sem.run, pure], h⟩⟩
theorem AtF.getD {a : Act} (h : AtF N s a) {n : Nat} {v : Value} (hn : lk n s = some v) : a.tmps.getD n undef = v := by
  rw [Array.getD_eq_getD_getElem?, h.2.2 n v hn]; rfl
theorem la_ret1 {fn : Func} {R : Ending → World → Prop} (t : Nat) (v : Value) (hr : fn.results = #[.tmp t]) (hv : lk t s = some v) (h : R (.returned v) w) : LA (bodyPost P fn R) .ret N s w :=
  ⟨fun a ha => ⟨ha.2.1, v, by simp [results, hr, Sem.run, pure, ha.2.2 t v hv], h⟩⟩
end
end Go.Proofs.Ytgkpplbomciehaa
