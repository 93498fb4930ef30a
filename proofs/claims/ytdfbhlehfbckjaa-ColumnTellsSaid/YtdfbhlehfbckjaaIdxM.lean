/- The index's map: keys of two numbers, each with its times, rising, in a row of its own. -/
import Derived.Test.YtdfbhlehfbckjaaMapK
import Derived.Test.YtdfbhlehfbckjaaIdxB
namespace Go.Proofs.Ytdfbhlehfbckjaa
open Go.RowKit

def kv (a b : Int) : Value := .agg #[.int .i64 a, .int .i64 b]
def isKv (v : Value) : Prop := ∃ a b, v = kv a b
theorem kv_inj {a b c d : Int} (h : kv a b = kv c d) : a = c ∧ b = d := by
  unfold kv at h
  injection h with h
  simpa using h
theorem stoodKey : Try.prog.stoodInHeld 52 = false := by kernel_rfl
theorem eq_kv (a b c d : Int) (w : World) : (Op.equal 52 (kv a b) (kv c d)).run Try.prog w = .ok (a == c && b == d) w := by
  unfold kv Op.equal Op.maxDepth
  rw [show (10000 : Nat) = 9999 + 1 from rfl, run_equalIn_agg _ _ _ _ _ (by simp [go_sem]) stoodKey]
  cases h0 : a == c
  · simp [go_sem, h0]
  cases h1 : b == d
  · simp [go_sem, h0, h1]
  · simp [go_sem, h0, h1]
theorem find_kv (a b : Int) (w : World) : ∀ (es : List MapEntry) (i : Nat), (∀ e ∈ es, isKv e.key) →
    ((Instr.findAsking 52 (kv a b) es i).run Try.prog w = .ok none w ∧ ∀ e ∈ es, e.key ≠ kv a b) ∨ ∃ j e, (Instr.findAsking 52 (kv a b) es i).run Try.prog w = .ok (some (i + j, e.val)) w ∧ es[j]? = some e ∧ e.key = kv a b
  | [], i, _ => .inl ⟨rfl, by simp⟩
  | e :: es, i, h => by
    obtain ⟨c, d, hk⟩ := h e (.head _)
    have he := eq_kv a b c d w
    cases hb : (a == c && b == d) with
    | true =>
      refine .inr ⟨0, e, ?_, rfl, ?_⟩
      · simp [Instr.findAsking, hk, he, hb, Result.andThen]
      · simp at hb; rw [hk, hb.1, hb.2]
    | false =>
      have hne : e.key ≠ kv a b := fun h2 => by
        rw [hk] at h2
        obtain ⟨rfl, rfl⟩ := kv_inj h2
        simp at hb
      rcases find_kv a b w es (i + 1) (fun x hx => h x (.tail _ hx)) with ⟨h1, h2⟩ | ⟨j, e', h1, h2, h3⟩
      · refine .inl ⟨?_, fun x hx => ?_⟩
        · simp [Instr.findAsking, hk, he, hb, Result.andThen, h1]
        · cases hx with
          | head => exact hne
          | tail _ hx => exact h2 x hx
      · refine .inr ⟨j + 1, e', ?_, by simpa using h2, h3⟩
        simp [Instr.findAsking, hk, he, hb, Result.andThen, h1]
        omega
theorem mkey : MapKey Try.prog 52 isKv where
  check w em v h := by
    obtain ⟨a, b, rfl⟩ := h
    unfold kv
    rw [show (10000 : Nat) = 9998 + 1 + 1 from rfl]
    generalize 9998 = n
    cases em <;> simp [Instr.checkKey, go_sem, Result.andThen]
  find w x hx es hes := by
    obtain ⟨a, b, rfl⟩ := hx
    have hfa := find_kv a b w es 0 hes
    cases es with
    | nil => exact .inl ⟨by simp [Instr.findKey, Instr.findNow, go_sem, Result.andThen], by simp⟩
    | cons e es =>
      obtain ⟨c, d, hk⟩ := hes e (.head _)
      have hf : (Instr.findKey 52 (kv a b) (e :: es)).run Try.prog w = (Instr.findAsking 52 (kv a b) (e :: es)).run Try.prog w := by
        simp [Instr.findKey, Instr.findNow, Instr.sameNow, go_sem, Result.andThen]
      rw [hf]
      simpa using hfa
  stays w v h := by
    obtain ⟨a, b, rfl⟩ := h
    have hb : Instr.sameBits 10000 (kv a b) (kv a b) = true := by
      rw [show (10000 : Nat) = 9999 + 1 from rfl]
      unfold kv Instr.sameBits
      generalize 9999 = n
      cases n <;> simp [Instr.sameBits]
    unfold Instr.keyThatStays
    rw [hb]
    rfl

/-- of the first k times those of a kind (and, if n is not -1, about n) -/
def timesUp (l : List Ev) (kind n : Int) (k : Nat) : List Int := ((List.range k).filter fun (t : Nat) => fitAt l kind n t).map Int.ofNat

/-- the map's block: for each key its times in a row of the call's own -/
structure IdxMap (w : World) (mb B : Nat) (D : Int → Int → List Int) (es : Array MapEntry) (clock : Nat) : Prop where
  lt : mb < B
  blk : w.heap[mb]? = some (.map es clock)
  st : MapKept.Stamped es clock
  own : ∀ x ∈ es.toList, ∃ a b, x.key = kv a b ∧ w.ownsRow B 3 1 x.val (D a b).length ((D a b).map (Value.int .i64))
  no : ∀ a b, (∀ x ∈ es.toList, x.key ≠ kv a b) → D a b = []
  apart : ∀ x ∈ es.toList, ∀ y ∈ es.toList, x.key ≠ y.key → x.val.ownBlock = none ∨ x.val.ownBlock ≠ y.val.ownBlock

def updD (D : Int → Int → List Int) (a b : Int) (l : List Int) : Int → Int → List Int := fun c d => if c = a ∧ d = b then l else D c d

theorem own_ne {w : World} {mb B : Nat} (h : mb < B) {u : Value} {n : Nat} {xs : List Value} (ho : w.ownsRow B 3 1 u n xs) : u.ownBlock = none ∨ u.ownBlock ≠ some mb := by
  cases hu : u.ownBlock with
  | none => exact .inl rfl
  | some g => exact .inr (fun e => by have := (ho.lt g hu).1; injection e with e; omega)

section
variable {w : World} {mb B : Nat} {D : Int → Int → List Int} {es : Array MapEntry} {clock : Nat}
theorem IdxMap.keep {w' : World} (hb : Bel w w') (h : IdxMap w mb B D es clock) : IdxMap w' mb B D es clock :=
  ⟨h.lt, (hb.block mb (Array.getElem?_eq_some_iff.1 h.blk).1).trans h.blk, h.st, fun x hx => by obtain ⟨a, b, hk, ho⟩ := h.own x hx; exact ⟨a, b, hk, hb.own ho⟩, h.no, h.apart⟩
theorem IdxMap.keys (h : IdxMap w mb B D es clock) : ∀ x ∈ es.toList, isKv x.key := fun x hx => by obtain ⟨a, b, hk, _⟩ := h.own x hx; exact ⟨a, b, hk⟩
theorem IdxMap.new (w : World) (hB : B = w.heap.size + 1) : IdxMap (w.alloc (.map #[] 0)) w.heap.size B (fun _ _ => []) #[] 0 :=
  ⟨by omega, heap_alloc_new w _, MapKept.stamped_empty 0, by simp, fun _ _ _ => rfl, by simp⟩

/-- a store at a key that is there -/
theorem IdxMap.mod (h : IdxMap w mb B D es clock) {a b : Int} {j : Nat} {e : MapEntry} (hj : es.toList[j]? = some e) (hke : e.key = kv a b) {w1 : World} {v' : Value} {l : List Int}
    (hg : w.grownBy w1 e.val.ownBlock) (ho' : w1.ownsRow B 3 1 v' l.length (l.map (Value.int .i64))) (hloc : e.val.ownBlock = v'.ownBlock ∨ ∃ g, v'.ownBlock = some g ∧ w.heap.size ≤ g) :
    IdxMap (setB w1 mb (.map (esMod es j (kv a b) v') clock)) mb B (updD D a b l) (esMod es j (kv a b) v') clock := by
  have hmb : mb < w.heap.size := (Array.getElem?_eq_some_iff.1 h.blk).1
  have hmem : e ∈ es.toList := List.mem_of_getElem? hj
  obtain ⟨a', b', hk', ho⟩ := h.own e hmem
  obtain ⟨rfl, rfl⟩ := kv_inj (hk'.symm.trans hke)
  have hvb : e.val.ownBlock ≠ some mb := by
    rcases own_ne h.lt ho with h | h
    · rw [h]; simp
    · exact h
  have hb1 : w1.heap[mb]? = some (.map es clock) := (hg.block mb hmb (fun h => hvb h.symm)).trans h.blk
  have hg2 := setB_grown w1 mb (.map (esMod es j (kv a' b') v') clock)
  have hst : MapKept.Stamped (esMod es j (kv a' b') v') clock := by rw [← hke]; exact stamped_mod h.st hj v'
  refine ⟨h.lt, setB_get hb1, hst, fun x hx => ?_, fun c d hcd => ?_, ?_⟩
  · rcases mem_mod hx with hx' | ⟨e', he', rfl⟩
    · obtain ⟨c, d, hkx, hox⟩ := h.own x hx'
      by_cases hsame : x.key = kv a' b'
      · obtain ⟨i, hi⟩ := List.mem_iff_getElem?.1 hx
        obtain ⟨rfl, he2⟩ := key_once hst hi (mod_at hj) hsame
        subst he2
        refine ⟨a', b', rfl, ?_⟩
        unfold updD; rw [if_pos ⟨rfl, rfl⟩]
        exact ho'.kept hg2 (own_ne h.lt ho')
      · refine ⟨c, d, hkx, ?_⟩
        have hcd : ¬ (c = a' ∧ d = b') := fun ⟨h1, h2⟩ => hsame (by rw [hkx, h1, h2])
        unfold updD; rw [if_neg hcd]
        have hap := h.apart x hx' e hmem (by rw [hke]; exact hsame)
        exact (hox.kept hg hap).kept hg2 (own_ne h.lt (hox.kept hg hap))
    · refine ⟨a', b', rfl, ?_⟩
      unfold updD; rw [if_pos ⟨rfl, rfl⟩]
      exact ho'.kept hg2 (own_ne h.lt ho')
  · have hcd' : ¬ (c = a' ∧ d = b') := fun ⟨e1, e2⟩ => hcd _ (List.mem_of_getElem? (mod_at hj)) (by rw [e1, e2])
    unfold updD; rw [if_neg hcd']
    refine h.no c d (fun x hx hxk => ?_)
    obtain ⟨i, hi⟩ := List.mem_iff_getElem?.1 hx
    by_cases hij : j = i
    · subst hij
      rw [hj] at hi
      obtain rfl := Option.some.inj hi
      exact hcd' ⟨(kv_inj (hxk.symm.trans hke)).1, (kv_inj (hxk.symm.trans hke)).2⟩
    · exact hcd x (List.mem_of_getElem? (mod_other hi hij)) hxk
  · have fresh : ∀ y ∈ es.toList, y.key ≠ kv a' b' → y.val.ownBlock = none ∨ y.val.ownBlock ≠ v'.ownBlock := fun y hy hyk => by
      rcases hloc with h' | ⟨g, h', hge⟩
      · rw [← h']; exact h.apart y hy e hmem (by rw [hke]; exact hyk)
      · obtain ⟨c, d, _, hoy⟩ := h.own y hy
        cases hyb : y.val.ownBlock with
        | none => exact .inl rfl
        | some g' =>
          refine .inr (fun e => ?_)
          rw [h'] at e
          injection e with e
          have := (hoy.lt g' hyb).2
          omega
    intro x hx y hy hxy
    rcases mem_mod hx with hx' | ⟨e1, _, rfl⟩ <;> rcases mem_mod hy with hy' | ⟨e2, _, rfl⟩
    · exact h.apart x hx' y hy' hxy
    · exact fresh x hx' hxy
    · rcases fresh y hy' (Ne.symm hxy) with h | h
      · cases hv : v'.ownBlock with
        | none => exact .inl rfl
        | some g => exact .inr (by rw [h]; simp)
      · exact .inr (Ne.symm h)
    · exact absurd rfl hxy

/-- a store at a key that is not there -/
theorem IdxMap.push (h : IdxMap w mb B D es clock) {a b : Int} (hne : ∀ x ∈ es.toList, x.key ≠ kv a b) {w1 : World} {v' : Value} {l : List Int}
    (hg : w.grownBy w1 none) (ho' : w1.ownsRow B 3 1 v' l.length (l.map (Value.int .i64))) (hloc : v'.ownBlock = none ∨ ∃ g, v'.ownBlock = some g ∧ w.heap.size ≤ g) :
    IdxMap (setB w1 mb (.map (esPush es clock (kv a b) v') (clock + 1))) mb B (updD D a b l) (esPush es clock (kv a b) v') (clock + 1) := by
  have hmb : mb < w.heap.size := (Array.getElem?_eq_some_iff.1 h.blk).1
  have hb1 : w1.heap[mb]? = some (.map es clock) := (hg.block mb hmb (fun h => by cases h)).trans h.blk
  have hg2 := setB_grown w1 mb (.map (esPush es clock (kv a b) v') (clock + 1))
  have fresh : ∀ y ∈ es.toList, y.val.ownBlock = none ∨ y.val.ownBlock ≠ v'.ownBlock := fun y hy => by
    obtain ⟨c, d, _, hoy⟩ := h.own y hy
    cases hyb : y.val.ownBlock with
    | none => exact .inl rfl
    | some g' =>
      refine .inr (fun e => ?_)
      rcases hloc with h' | ⟨g, h', hge⟩
      · rw [h'] at e; cases e
      · rw [h'] at e
        injection e with e
        have := (hoy.lt g' hyb).2
        omega
  refine ⟨h.lt, setB_get hb1, stamped_push h.st hne v', fun x hx => ?_, fun c d hcd => ?_, fun x hx y hy hxy => ?_⟩
  · rcases mem_push.1 hx with hx' | rfl
    · obtain ⟨c, d, hkx, hox⟩ := h.own x hx'
      refine ⟨c, d, hkx, ?_⟩
      have hcd : ¬ (c = a ∧ d = b) := fun ⟨h1, h2⟩ => hne x hx' (by rw [hkx, h1, h2])
      unfold updD; rw [if_neg hcd]
      have h1 := hox.kept hg (by cases hv : x.val.ownBlock <;> simp)
      exact h1.kept hg2 (own_ne h.lt h1)
    · refine ⟨a, b, rfl, ?_⟩
      unfold updD; rw [if_pos ⟨rfl, rfl⟩]
      exact ho'.kept hg2 (own_ne h.lt ho')
  · have hcd' : ¬ (c = a ∧ d = b) := fun ⟨e1, e2⟩ => hcd _ (mem_push.2 (.inr rfl)) (by rw [e1, e2])
    unfold updD; rw [if_neg hcd']
    exact h.no c d (fun x hx => hcd x (mem_push.2 (.inl hx)))
  · rcases mem_push.1 hx with hx' | rfl <;> rcases mem_push.1 hy with hy' | rfl
    · exact h.apart x hx' y hy' hxy
    · exact fresh x hx'
    · rcases fresh y hy' with h | h
      · cases hv : v'.ownBlock with
        | none => exact .inl rfl
        | some g => exact .inr (by rw [h]; simp)
      · exact .inr (Ne.symm h)
    · exact absurd rfl hxy

theorem zeroRow (w : World) : (zeroValue 23).run Try.prog w = .ok (.slice none 0 0) w := by kernel_rfl

/-- look up, append, store: v is what the look-up gives; behind an append to v's own row the store leaves the map with the longer list -/
theorem IdxMap.step (h : IdxMap w mb B D es clock) (a b : Int) :
    ∃ (v : Value), w.ownsRow B 3 1 v (D a b).length ((D a b).map (Value.int .i64)) ∧ v.ownBlock ≠ some mb ∧
      (∀ w1 : World, w1.heap[mb]? = some (.map es clock) → (Instr.lookup 46 (.map (some mb)) (kv a b) false).run Try.prog w1 = .ok v w1) ∧
      ∃ (G : Value → Array MapEntry) (c' : Nat), (∀ (w1 : World) (v' : Value), w1.heap[mb]? = some (.map es clock) → (Instr.mapUpdate 46 (.map (some mb)) (kv a b) v').run Try.prog w1 = .ok () (setB w1 mb (.map (G v') c'))) ∧
        ∀ (w1 : World) (v' : Value) (l : List Int), w.grownBy w1 v.ownBlock → w1.ownsRow B 3 1 v' l.length (l.map (Value.int .i64)) → (v.ownBlock = v'.ownBlock ∨ ∃ g, v'.ownBlock = some g ∧ w.heap.size ≤ g) →
          IdxMap (setB w1 mb (.map (G v') c')) mb B (updD D a b l) (G v') c' := by
  have hk : isKv (kv a b) := ⟨a, b, rfl⟩
  rcases find_cases mkey h.st h.keys hk with ⟨j, e, hj, hke, hf⟩ | ⟨hne, hf⟩
  · obtain ⟨a', b', hk', ho⟩ := h.own e (List.mem_of_getElem? hj)
    obtain ⟨rfl, rfl⟩ := kv_inj (hk'.symm.trans hke)
    refine ⟨e.val, ho, ?_, fun w1 hb => run_look mkey Try.underlying46 hk hb (hf w1) false, fun v' => esMod es j (kv a' b') v', clock,
      fun w1 v' hb => run_put mkey Try.underlying46 hk hb hj hke (hf w1) v', fun w1 v' l hg ho' hloc => h.mod hj hke hg ho' hloc⟩
    rcases own_ne h.lt ho with h | h
    · rw [h]; simp
    · exact h
  · have h0 := h.no a b hne
    refine ⟨.slice none 0 0, by rw [h0]; exact World.ownsRow_nil _ _ _ _, by simp [Value.ownBlock], fun w1 hb => run_look_no mkey Try.underlying46 hk (zeroRow w1) hb (hf w1) false, fun v' => esPush es clock (kv a b) v', clock + 1,
      fun w1 v' hb => run_put_no mkey Try.underlying46 hk hb (hf w1) v', fun w1 v' l hg ho' hloc => h.push hne hg ho' (hloc.imp (fun e => by rw [← e]; rfl) id)⟩

/-- the entry, append, the store into it -/
theorem IdxMap.entry (h : IdxMap w mb B D es clock) (_hB : B ≤ w.heap.size) (a b : Int) :
    ∃ (v : Value) (st : Int) (es' : Array MapEntry) (c' : Nat), IdxMap (setB w mb (.map es' c')) mb B D es' c' ∧ (setB w mb (.map es' c')).ownsRow B 3 1 v (D a b).length ((D a b).map (Value.int .i64)) ∧ v.ownBlock ≠ some mb ∧
      (∀ w1 : World, w1.heap[mb]? = some (.map es clock) → (Instr.mapEntry 46 (.map (some mb)) (kv a b)).run Try.prog w1 = .ok (.tuple #[v, .int .i64 st]) (setB w1 mb (.map es' c'))) ∧
      ∃ (G : Value → Array MapEntry), (∀ (w1 : World) (v' : Value), w1.heap[mb]? = some (.map es' c') → (Instr.entryStore 46 (.map (some mb)) (.int .i64 st) v').run Try.prog w1 = .ok () (setB w1 mb (.map (G v') c'))) ∧
        ∀ (w1 : World) (v' : Value) (l : List Int), (setB w mb (.map es' c')).grownBy w1 v.ownBlock → w1.ownsRow B 3 1 v' l.length (l.map (Value.int .i64)) → (v.ownBlock = v'.ownBlock ∨ ∃ g, v'.ownBlock = some g ∧ w.heap.size ≤ g) →
          IdxMap (setB w1 mb (.map (G v') c')) mb B (updD D a b l) (G v') c' := by
  have hk : isKv (kv a b) := ⟨a, b, rfl⟩
  have hD : ∀ c d, updD D a b (D a b) c d = D c d := fun c d => by unfold updD; split <;> simp_all
  have hD' : updD D a b (D a b) = D := by funext c d; exact hD c d
  rcases find_cases mkey h.st h.keys hk with ⟨j, e, hj, hke, hf⟩ | ⟨hne, hf⟩
  · obtain ⟨a', b', hk', ho⟩ := h.own e (List.mem_of_getElem? hj)
    obtain ⟨rfl, rfl⟩ := kv_inj (hk'.symm.trans hke)
    have h' := h.mod (l := D a' b') hj hke (World.grownBy.refl w _) ho (.inl rfl)
    rw [hD'] at h'
    have hj' : (esMod es j (kv a' b') e.val).toList[j]? = some { e with key := kv a' b', val := e.val } := mod_at hj
    refine ⟨e.val, e.born, esMod es j (kv a' b') e.val, clock, h', ho.kept (setB_grown w mb _) (own_ne h.lt ho), ?_, fun w1 hb => run_entry mkey Try.underlying46 hk hb hj hke (hf w1),
      fun v' => esMod (esMod es j (kv a' b') e.val) j (kv a' b') v', fun w1 v' hb => run_estore hb h'.st hj' v', fun w1 v' l hg ho' hloc => h'.mod hj' rfl hg ho' (hloc.imp id (fun ⟨g, h1, h2⟩ => ⟨g, h1, by rw [setB_size]; exact h2⟩))⟩
    rcases own_ne h.lt ho with h | h
    · rw [h]; simp
    · exact h
  · have h0 := h.no a b hne
    have h' := h.push (l := D a b) hne (World.grownBy.refl w _) (by rw [h0]; exact World.ownsRow_nil w B 3 1) (.inl rfl)
    rw [hD'] at h'
    have hj' : (esPush es clock (kv a b) (.slice none 0 0)).toList[es.toList.length]? = some { key := kv a b, val := .slice none 0 0, born := clock } := by simp [esPush]
    refine ⟨.slice none 0 0, clock, esPush es clock (kv a b) (.slice none 0 0), clock + 1, h', by rw [h0]; exact World.ownsRow_nil _ _ _ _, by simp [Value.ownBlock], fun w1 hb => run_entry_no mkey Try.underlying46 hk (zeroRow w1) hb (hf w1),
      fun v' => esMod (esPush es clock (kv a b) (.slice none 0 0)) es.toList.length (kv a b) v', fun w1 v' hb => run_estore hb h'.st hj' v', fun w1 v' l hg ho' hloc => h'.mod hj' rfl hg ho' (hloc.imp id (fun ⟨g, h1, h2⟩ => ⟨g, h1, by rw [setB_size]; exact h2⟩))⟩

/-- what a look-up in the index gives: the times, rising -/
theorem IdxMap.look (h : IdxMap w mb B D es clock) (a b : Int) : ∃ v, Sl intR w v (D a b) ∧ ∀ w1 : World, w1.heap[mb]? = some (.map es clock) → (Instr.lookup 46 (.map (some mb)) (kv a b) false).run Try.prog w1 = .ok v w1 := by
  obtain ⟨v, ho, _, hl, _⟩ := h.step a b
  exact ⟨v, Sl.own_int ho rfl, hl⟩
end

end Go.Proofs.Ytdfbhlehfbckjaa
