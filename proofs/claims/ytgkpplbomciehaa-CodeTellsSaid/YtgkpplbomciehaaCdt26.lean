/- The memory of the document's machine, and what turns it. Walks by slots, of regions that draw their order. Nothing here speaks of one function. Appends in walks by slots. Nothing here speaks of one function. The document's machine: its topmost frame, events, the end, writes: walked. The document's machine: the end, writes, values: walked. Each lemma states its own conditions. -/
import Derived.Test.YtgkpplbomciehaaCdt09
import Derived.Test.YtgkpplbomciehaaCdt21
import Derived.Laws.MakeOwn
import Derived.Test.YtgkpplbomciehaaCdt24
namespace Go.Proofs.Ytgkpplbomciehaa
open Go.RowKit
section
variable {w : World} {base size n : Nat} {e : TypeId} {xs : List Value}
/-- .. as it lies elsewhere -/
theorem own_by {w' : World} {v : Value} (ho : w.ownsRow base e size v n xs) (hk : ∀ k cs, v.ownBlock = some k → Blk w k e cs → Blk w' k e cs) : w'.ownsRow base e size v n xs :=
  ⟨ho.1, by
    rcases ho.2 with h | ⟨g, cap, cur, rfl, h1, h2, h3⟩
    · exact .inl h
    · exact .inr ⟨g, cap, cur, rfl, h1, hk _ _ rfl h2, h3⟩⟩
end
/-- a panic is none of the frame's business -/
def PanOk (Q : Exit → Act → World → Prop) : Prop := ∀ c a d v w, Q (.panic c) (Act.put a d v) w → Q (.panic c) a w
theorem put_defers (a : Act) (d : Option Tmp) (v : Value) : (Act.put a d v).defers = a.defers := by cases d <;> rfl
theorem pan_body {P : Program} {fn : Func} {R : Ending → World → Prop} : PanOk (bodyPost P fn R) := fun c a d v w h => by
  obtain ⟨h1, h2⟩ := h
  exact ⟨(put_defers a d v).symm.trans h1, h2⟩
theorem pan_then {K : Act → World → Prop} {Q : Exit → Act → World → Prop} (h : PanOk Q) : PanOk (Exit.then K Q) := fun c a d v w hq => h c a d v w hq
theorem pan_block {id : Nat} {Q : Exit → Act → World → Prop} (h : PanOk Q) : PanOk (Exit.inBlock id Q) := fun c a d v w hq => h c a d v w hq
/-- a region that draws its order, walked by slots: what S says holds of each world on the way -/
structure RA (P : Program) (ops : Array Oper) (Q : Exit → Act → World → Prop) (S : World → Prop) (fuel : Nat) (listed : Array Bool) (N : Nat) (s : List (Nat × Value)) (w : World) : Prop where
  out : PanOk Q → S w → ∀ a, AtF N s a → wpAnyH P .any ops Q S fuel listed a w
/-- may this one be taken first? -/
def takeB (ops : Array Oper) (listed : Array Bool) (i N : Nat) (s : List (Nat × Value)) (d : Option Tmp) : Bool :=
  match ops[i]? with
  | some o => Region.noSelect ops && (Region.free .any ops listed i && ((Region.ready .any ops listed).contains i && (okDst N o d && okOp ops s o)))
  | none => false
/-- is this one the only one that may come up? -/
def oneB (ops : Array Oper) (listed : Array Bool) (i N : Nat) (s : List (Nat × Value)) (d : Option Tmp) : Bool :=
  match ops[i]? with
  | some o => (Region.ready .any ops listed == [i]) && (okDst N o d && okOp ops s o)
  | none => false
section
variable {P : Program} {ops : Array Oper} {Q : Exit → Act → World → Prop} {S : World → Prop} {fuel : Nat} {listed : Array Bool} {N : Nat} {s : List (Nat × Value)} {w : World}
theorem ca_held {id : Nat} {l : List Oper} (S : World → Prop) (hm : P.follows .mixedOrders = true) (hS : S w.drew) (hP : PanOk Q) (h : RA P l.toArray Q S l.toArray.size (Array.replicate l.toArray.size false) N s w.drew) : CA P (.region id l.toArray true) Q N s w :=
  ⟨fun a ha => wp_region_held_drew hm hS fun hS' => h.out hP hS' a ha⟩
theorem ra_take (i : Nat) (d : Option Tmp) (v : Value) {o : Oper} (hi : ops[i]? = some o) (hc : takeB ops listed i N s d = true) (hrun : ∀ W, S W → (execOp (evl s) o).run P W = .ok (.value v) W)
    (h : RA P ops Q S fuel (listed.setIfInBounds i true) N (putS d v s) w) : RA P ops Q S (fuel + 1) listed N s w :=
  ⟨fun hP hS a ha => by
    unfold takeB at hc
    rw [hi] at hc
    simp only [Bool.and_eq_true] at hc
    obtain ⟨h1, h2, h3, h4, h5⟩ := hc
    exact rt_take d v hi (okDst_dst h4) h1 h2 h3 (fun c a w hq => hP c a d v w hq) (ha.done h5) hS (fun W hW => by rw [ha.exec h5]; exact hrun W hW) (h.out hP hS _ (ha.put h4 v))⟩
theorem ra_one (i : Nat) (d : Option Tmp) (v : Value) (w' : World) {o : Oper} (hi : ops[i]? = some o) (hc : oneB ops listed i N s d = true) (hrun : (execOp (evl s) o).run P w = .ok (.value v) w') (hS' : S w')
    (h : RA P ops Q S fuel (listed.setIfInBounds i true) N (putS d v s) w') : RA P ops Q S (fuel + 1) listed N s w :=
  ⟨fun hP _ a ha => by
    unfold oneB at hc
    rw [hi] at hc
    simp only [Bool.and_eq_true] at hc
    obtain ⟨h1, h4, h5⟩ := hc
    exact rt_one d (by simpa using h1) hi (okDst_dst h4) (ha.done h5) v w' (by rw [ha.exec h5]; exact hrun) hS' (fun hS2 => h.out hP hS2 _ (ha.put h4 v))⟩
theorem ra_call (i : Nat) (d : Option Tmp) {o : Oper} (hi : ops[i]? = some o) (hc : oneB ops listed i N s d = true) (f : FuncId) (args : Array Value) (hrun : (execOp (evl s) o).run P w = .ok (.enter f args) w) {R : Ending → World → Prop} (hC : Calls P f args w R)
    (h : ∀ e w', R e w' → ∃ v, e = .returned v ∧ S w' ∧ RA P ops Q S fuel (listed.setIfInBounds i true) N (putS d v s) w') : RA P ops Q S (fuel + 1) listed N s w :=
  ⟨fun hP _ a ha => by
    unfold oneB at hc
    rw [hi] at hc
    simp only [Bool.and_eq_true] at hc
    obtain ⟨h1, h4, h5⟩ := hc
    exact rt_call d (by simpa using h1) hi (okDst_dst h4) (ha.done h5) f args (by rw [ha.exec h5]; exact hrun) hC fun e w' hR => by
      obtain ⟨v, he, hS', hW⟩ := h e w' hR
      exact ⟨v, he, hS', fun hS2 => hW.out hP hS2 _ (ha.put h4 v)⟩⟩
theorem ra_sto (i : Nat) (d : Option Tmp) (w' : World) {o : Oper} (hi : ops[i]? = some o) (hc : oneB ops listed i N s d = true) (hrun : (execOp (evl s) o).run P w = .ok .skip w') (hS' : S w')
    (h : RA P ops Q S fuel (listed.setIfInBounds i true) N (putS d undef s) w') : RA P ops Q S (fuel + 1) listed N s w :=
  ⟨fun hP _ a ha => by
    unfold oneB at hc
    rw [hi] at hc
    simp only [Bool.and_eq_true] at hc
    obtain ⟨h1, h4, h5⟩ := hc
    refine wpAnyH_ready (by simpa using h1) (by simp) (AllReadyH.cons hi (fun K hK => ?_) AllReadyH.nil)
    rw [if_pos (ha.done h5)]
    unfold Oper.wp
    rw [ha.exec h5, hrun, Oper.upon_skip, okDst_dst h4]
    exact hK.out _ _ hS' fun hS2 => h.out hP hS2 _ (ha.put h4 undef)⟩
theorem ra_done (hr : Region.ready .any ops listed = []) (h : LA Q .normal N s w) : RA P ops Q S fuel listed N s w := ⟨fun _ _ a ha => wpAnyH_done hr (h.out a ha) _⟩
/-- one of those that may come up comes up -/
structure RS (P : Program) (ops : Array Oper) (Q : Exit → Act → World → Prop) (S : World → Prop) (fuel : Nat) (listed : Array Bool) (N : Nat) (s : List (Nat × Value)) (w : World) (i : Nat) : Prop where
  out : PanOk Q → S w → ∀ a, AtF N s a → StepAt P .any ops Q S fuel listed a w i
def stepB (ops : Array Oper) (i N : Nat) (s : List (Nat × Value)) (d : Option Tmp) : Bool :=
  match ops[i]? with
  | some o => okDst N o d && okOp ops s o
  | none => false
theorem ra_two (i j : Nat) (hr : Region.ready .any ops listed = [i, j]) (h : RS P ops Q S fuel listed N s w i) (h' : RS P ops Q S fuel listed N s w j) : RA P ops Q S (fuel + 1) listed N s w :=
  ⟨fun hP hS a ha => st_two hr (h.out hP hS a ha) (h'.out hP hS a ha)⟩
theorem rs_to (d : Option Tmp) (v : Value) (w' : World) {i : Nat} {o : Oper} (hi : ops[i]? = some o) (hc : stepB ops i N s d = true) (hrun : (execOp (evl s) o).run P w = .ok (.value v) w') (hS' : S w')
    (h : RA P ops Q S fuel (listed.setIfInBounds i true) N (putS d v s) w') : RS P ops Q S fuel listed N s w i :=
  ⟨fun hP _ a ha => wpOp_step hi fun _ hK => by
    unfold stepB at hc
    rw [hi] at hc
    simp only [Bool.and_eq_true] at hc
    rw [if_pos (ha.done hc.2)]
    unfold Oper.wp
    rw [ha.exec hc.2, hrun, Oper.upon_value, okDst_dst hc.1]
    exact hK _ _ ⟨hS', h.out hP hS' _ (ha.put hc.1 v)⟩⟩
theorem rs_call (d : Option Tmp) {i : Nat} {o : Oper} (hi : ops[i]? = some o) (hc : stepB ops i N s d = true) (f : FuncId) (args : Array Value) (hrun : (execOp (evl s) o).run P w = .ok (.enter f args) w) {R : Ending → World → Prop} (hC : Calls P f args w R)
    (h : ∀ e w', R e w' → ∃ v, e = .returned v ∧ S w' ∧ RA P ops Q S fuel (listed.setIfInBounds i true) N (putS d v s) w') : RS P ops Q S fuel listed N s w i :=
  ⟨fun hP _ a ha => wpOp_step hi fun _ hK => by
    unfold stepB at hc
    rw [hi] at hc
    simp only [Bool.and_eq_true] at hc
    rw [if_pos (ha.done hc.2)]
    unfold Oper.wp
    rw [ha.exec hc.2, hrun, Oper.upon_enter]
    refine hC.mono fun e w' hh => ?_
    obtain ⟨v, rfl, hS', hW⟩ := h e w' hh
    rw [okDst_dst hc.1]
    exact hK _ _ ⟨hS', hW.out hP hS' _ (ha.put hc.1 v)⟩⟩
end
section
variable {P : Program} {ops : Array Oper} {Q : Exit → Act → World → Prop} {S : World → Prop} {fuel : Nat} {listed : Array Bool} {N : Nat} {s : List (Nat × Value)} {rest : List Oper}
theorem AtF.known {a : Act} {x : Operand} {v : Value} (h : AtF N s a) (hk : knows s x = true) (hx : evl s x = v) : a.eval x = v := by rw [h.eval hk, hx]
/-- 'xs = append(xs, x)' where one operation may come up: W is the world ahead of the one-element row -/
theorem ra_app (i : Nat) (d : Option Tmp) (W : World) {o : Oper} (y x : Operand) (t : TypeId) (hi : ops[i]? = some o) (hc : oneB ops listed i N s d = true) (hg : o.guard = none)
    (ho : o.op = .call { callee := .builtin .append, args := #[y, x], argTypes := #[t, t] }) (base : Nat) {e : TypeId} {size bytes : Nat} (E : Elem P t e size bytes)
    (v : Value) (n : Nat) (xs : List Value) (hky : knows s y = true) (hy : evl s y = v) (hown : W.ownsRow base e size v n xs) (cs : List Value) (hkx : knows s x = true) (hx : evl s x = .slice (some ⟨W.heap.size, 0, none⟩) 1 1)
    (hl : cs.length = size) (h1 : ∀ u ∈ cs, u.oneCell' = true) (h63 : n + 1 ≤ maxLen) (hbytes : (n + 1) * bytes ≤ 140737488355328) (hbase : base ≤ W.heap.size)
    (h : ∀ g cap w', w'.ownsRow base e size (.slice (some ⟨g, 0, none⟩) (n + 1) cap) (n + 1) (xs ++ cs) → W.grownBy w' v.ownBlock → (v.ownBlock = some g ∨ W.heap.size ≤ g) →
      S w' ∧ RA P ops Q S fuel (listed.setIfInBounds i true) N (putS d (.slice (some ⟨g, 0, none⟩) (n + 1) cap) s) w') : RA P ops Q S (fuel + 1) listed N s (W.alloc (.cells cs.toArray e)) :=
  ⟨fun hP _ a ha => by
    unfold oneB at hc
    rw [hi] at hc
    simp only [Bool.and_eq_true] at hc
    obtain ⟨h2, h4, h5⟩ := hc
    refine wpAnyH_ready (by simpa using h2) (by simp) (AllReadyH.cons hi (fun K hK => ?_) AllReadyH.nil)
    refine step_app W hg y x t ho base E v n xs (ha.known hky hy) hown cs _ rfl (ha.known hkx hx) hl h1 h63 hbytes hbase (fun g cap w' a1 a2 a3 => ?_) rfl
    obtain ⟨hS', hR⟩ := h g cap w' a1 a2 a3
    rw [okDst_dst h4]
    exact hK.out _ _ hS' fun hS2 => hR.out hP hS2 _ (ha.put h4 _)⟩
/-- .. in the text's order -/
theorem wa_app (d : Option Tmp) (W : World) {o : Oper} (y x : Operand) (t : TypeId) (hd : okDst N o d = true) (hg : o.guard = none)
    (ho : o.op = .call { callee := .builtin .append, args := #[y, x], argTypes := #[t, t] }) (base : Nat) {e : TypeId} {size bytes : Nat} (E : Elem P t e size bytes)
    (v : Value) (n : Nat) (xs : List Value) (hky : knows s y = true) (hy : evl s y = v) (hown : W.ownsRow base e size v n xs) (cs : List Value) (hkx : knows s x = true) (hx : evl s x = .slice (some ⟨W.heap.size, 0, none⟩) 1 1)
    (hl : cs.length = size) (h1 : ∀ u ∈ cs, u.oneCell' = true) (h63 : n + 1 ≤ maxLen) (hbytes : (n + 1) * bytes ≤ 140737488355328) (hbase : base ≤ W.heap.size)
    (h : ∀ g cap w', w'.ownsRow base e size (.slice (some ⟨g, 0, none⟩) (n + 1) cap) (n + 1) (xs ++ cs) → W.grownBy w' v.ownBlock → (v.ownBlock = some g ∨ W.heap.size ≤ g) →
      WA P ops Q rest N (putS d (.slice (some ⟨g, 0, none⟩) (n + 1) cap) s) w') : WA P ops Q (o :: rest) N s (W.alloc (.cells cs.toArray e)) :=
  ⟨fun a ha => wpl_app W hg y x t ho base E v n xs (ha.known hky hy) hown cs (ha.known hkx hx) hl h1 h63 hbytes hbase fun g cap w' a1 a2 a3 => by
    rw [okDst_dst hd]
    exact (h g cap w' a1 a2 a3).out _ (ha.put hd _)⟩
end
section
variable {o : Oper} {ρ : Operand → Value} {W : World} {x : Operand} {b f : Nat} {v : Value}
variable {y : Operand} {u : Value}
theorem rs_intM {n : Int} (ho : o.op = .store 3 x y) (hx : ρ x = .pointer (some ⟨b, f, none⟩)) (hy : ρ y = .int .i64 n) (hc : W.cell? ⟨b, f, none⟩ = some u) (hf : W.frozen? ⟨b, f, none⟩ = false) : (execOp ρ o).run Try.prog W = .ok .skip (W.setCell ⟨b, f, none⟩ (.int .i64 n)) := by
  simp [execOp, ho, hx, hy, hc, hf, go_sem]
end
section
variable {o : Oper} {ρ : Operand → Value} {W : World} {x : Operand} {b f : Nat} {v : Value}
theorem rl_vvM (ho : o.op = .load 24 x) (hx : ρ x = .pointer (some ⟨b, f, none⟩)) (hc : W.cell? ⟨b, f, none⟩ = some v) : (execOp ρ o).run Try.prog W = .ok (.value v) W := by
  simp [execOp, ho, hx, hc, go_sem]
end
end Go.Proofs.Ytgkpplbomciehaa
