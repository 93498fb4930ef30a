/- What is compiled passes the check: plain. Each lemma states its own conditions. -/
import Derived.Test.YtgkpplbomciehaaCdt31
namespace Go.Proofs.Ytgkpplbomciehaa
open Go.RowKit
/-- an instruction that is right in code of so many instructions and functions -/
def InsOk (n m : Int) (i : Ins) : Prop := ∀ c : Cd, (c.ins.length : Int) = n → (c.first.length : Int) = m → insE c i = 0
section
variable {n m a b : Int}
theorem insOk_of {i : Ins} (h : ∀ c : Cd, (c.ins.length : Int) = n → (c.first.length : Int) = m → (1 ≤ i.kind ∧ i.kind ≤ 14) ∧ insA c i = true ∧ ¬ ((((i.kind = 9 ∨ i.kind = 13) ∨ i.kind = 14) ∧ ¬ i.a = 0) ∨ (¬ i.kind = 12 ∧ ¬ i.b = 0))) : InsOk n m i := fun c h1 h2 => by
  obtain ⟨g1, g2, g3⟩ := h c h1 h2
  unfold insE
  rw [if_neg (fun hh => hh g1), if_neg (by rw [g2]; decide), if_neg g3]
theorem insOk_nat {k : Int} (h : k = 1 ∨ k = 3 ∨ k = 4 ∨ k = 6 ∨ k = 7 ∨ k = 8) (ha : 0 ≤ a) : InsOk n m ⟨k, a, 0⟩ := insOk_of fun c _ _ => by
  refine ⟨by dsimp only; omega, ?_, by dsimp only; omega⟩
  unfold insA
  dsimp only
  rw [if_neg (by omega), if_neg (by omega), if_neg (by omega), if_neg (by omega), if_neg (by omega)]
  exact decide_eq_true ha
theorem insOk_none {k : Int} (h : k = 9 ∨ k = 13 ∨ k = 14) : InsOk n m ⟨k, 0, 0⟩ := insOk_of fun c _ _ => by
  refine ⟨by dsimp only; omega, ?_, by dsimp only; omega⟩
  unfold insA
  dsimp only
  rw [if_neg (by omega), if_neg (by omega), if_neg (by omega), if_neg (by omega), if_pos (by omega)]
theorem insOk_goto {k : Int} (h : k = 10 ∨ k = 11) (h0 : 0 ≤ a) (h1 : a ≤ n - 1) : InsOk n m ⟨k, a, 0⟩ := insOk_of fun c hc _ => by
  refine ⟨by dsimp only; omega, ?_, by dsimp only; omega⟩
  unfold insA
  dsimp only
  rw [if_neg (by omega), if_pos (by omega)]
  exact decide_eq_true ⟨h0, by omega⟩
theorem insOk_num (h : Num a) : InsOk n m ⟨2, a, 0⟩ := insOk_of fun c _ _ => by
  refine ⟨by dsimp only; omega, ?_, by dsimp only; omega⟩
  unfold insA
  dsimp only
  rw [if_pos (by omega)]
  exact decide_eq_true h
theorem insOk_op (h0 : 4 ≤ a) (h1 : a ≤ 10) : InsOk n m ⟨5, a, 0⟩ := insOk_of fun c _ _ => by
  refine ⟨by dsimp only; omega, ?_, by dsimp only; omega⟩
  unfold insA
  dsimp only
  rw [if_neg (by omega), if_neg (by omega), if_pos (by omega)]
  exact decide_eq_true ⟨h0, h1⟩
theorem insOk_call (h0 : 0 ≤ a) (h1 : a ≤ m - 1) (h2 : 0 ≤ b) (h3 : b ≤ 3) : InsOk n m ⟨12, a, b⟩ := insOk_of fun c _ hm => by
  refine ⟨by dsimp only; omega, ?_, by dsimp only; omega⟩
  unfold insA
  dsimp only
  rw [if_neg (by omega), if_neg (by omega), if_neg (by omega), if_pos (by omega), Bool.and_eq_true]
  exact ⟨decide_eq_true ⟨h0, by omega⟩, decide_eq_true ⟨h2, h3⟩⟩
theorem compA_in {l : List PE} {i : Ins} : i ∈ compA l → ∃ x ∈ l, i ∈ x.comp := by
  induction l with
  | nil => intro h; rw [compA] at h; simp at h
  | cons x xs ih =>
    intro h
    rw [compA] at h
    rcases List.mem_append.1 h with h | h
    · exact ⟨x, by simp, h⟩
    · obtain ⟨y, hy, h2⟩ := ih h
      exact ⟨y, by simp [hy], h2⟩
theorem expr_ok (z : List Int) : ∀ e : PE, e.parts z = 0 → ∀ i ∈ e.comp, InsOk n m i :=
  PE.ind fun k u args ih hp i hi => by
    obtain ⟨hP, hA⟩ := PE.parts_ok hp
    rw [PE.comp] at hi
    rcases List.mem_append.1 hi with hi | hi
    · obtain ⟨x, hx, h2⟩ := compA_in hi
      exact ih x hx (hA x hx) i h2
    · obtain rfl := List.mem_singleton.1 hi
      unfold partP at hP
      split at hP
      · omega
      rename_i ha
      have ha : ¬ arityE k < 0 := ha
      have hk : 1 ≤ k ∧ k ≤ 10 := by
        unfold arityE at ha
        split at ha
        · omega
        · omega
      split at hP
      · omega
      replace hP : (if k = 1 then (if -9999999 ≤ u ∧ u ≤ 9999999 then (0 : Int) else 3) else if k ≤ 3 then (if 0 ≤ u ∧ u < (z.length : Int) then (if k = 2 ∧ 0 < z.getD u.toNat 0 ∨ k = 3 ∧ z.getD u.toNat 0 = 0 then 7 else 0) else 5) else if u ≠ 0 then 3 else 0) = 0 := hP
      unfold lastI
      by_cases h1 : k = 1
      · rw [if_pos h1]
        rw [if_pos h1] at hP
        split at hP
        · exact insOk_num (by unfold Num; omega)
        · omega
      rw [if_neg h1] at hP ⊢
      by_cases h3 : k ≤ 3
      · rw [if_pos h3] at hP
        split at hP
        · by_cases h2 : k = 2
          · rw [if_pos h2]
            exact insOk_nat (by omega) (by omega)
          · rw [if_neg h2, if_pos (by omega)]
            exact insOk_nat (by omega) (by omega)
        · omega
      · rw [if_neg (by omega), if_neg (by omega)]
        exact insOk_op (by omega) (by omega)
end
theorem comp_ln {ps : List PF} (hp : Prog ps) {z : List Int} {calls : Int} (hc : calls ≤ (ps.length : Int) - 1) : ∀ x : PC, x.err (ps.map PF.params) z calls = 0 → ∀ a b, (x.comp a b).length ≤ 48 * x.cnt :=
  PC.ind fun k v f i e args thn els h1 h2 herr a b => by
    obtain ⟨hown, ht, he⟩ := PC.err_ok herr
    have hcl : ∀ (l : List PC), (∀ x ∈ l, x.err (ps.map PF.params) z calls = 0 → ∀ a b, (x.comp a b).length ≤ 48 * x.cnt) → errCs (ps.map PF.params) z calls l = 0 → ∀ a b, (compCs l a b).length ≤ 48 * cntP l := by
      intro l
      induction l with
      | nil => intro _ _ a b; rw [compCs, cntP]; simp
      | cons x xs ih =>
        intro hx hl a b
        have hm := errCs_mem hl
        rw [errCs] at hl
        obtain ⟨h3, h4⟩ := orE_eq_zero hl
        have h5 := hx x (by simp) h3 a b
        have h6 := ih (fun y hy => hx y (by simp [hy])) h4 (a + x.cnt) (b + (x.comp a b).length)
        rw [compCs, cntP, List.length_append]
        omega
    have hT := hcl thn h1 ht
    have hE := hcl els h2 he
    have hcnt := PC.cnt_eq (.mk k v f i e args thn els)
    dsimp only [PC.thn, PC.els] at hcnt
    have he15 : k ≠ 3 → k ≠ 4 → e.comp.length ≤ 15 := fun g1 g2 => PE.err_len (hown.expr g1 g2)
    have hi15 : k = 2 → i.comp.length ≤ 15 := fun g => PE.err_len (hown.index g)
    have hA := compA_len hown.all
    have ha3 : k = 3 → args.length ≤ 3 := fun g => (hp.args (x := .mk k v f i e args thn els) (hown.fn g).1 (by have := (hown.fn g).2; omega) (hown.args g)).1
    dsimp only [PC.args] at hA
    rw [PC.comp, List.length_cons]
    split
    · rename_i g
      rw [List.length_append, List.length_singleton]
      have := he15 (by omega) (by omega)
      omega
    split
    · rename_i g
      rw [List.length_append, List.length_append, List.length_singleton]
      have := he15 (by omega) (by omega)
      have := hi15 g
      omega
    split
    · rename_i g
      rw [List.length_append, List.length_cons, List.length_singleton]
      have := ha3 g
      omega
    split
    · rw [List.length_singleton]
      omega
    split
    · rename_i g
      rw [List.length_append, List.length_singleton]
      have := he15 (by omega) (by omega)
      omega
    split
    · rename_i g
      have := he15 (by omega) (by omega)
      simp only [List.length_append, List.length_cons]
      have t1 := hT (a + 1) (b + e.comp.length + 2)
      generalize compCs thn (a + 1) (b + e.comp.length + 2) = T at *
      have t2 := hE (a + 1 + cntP thn) (b + e.comp.length + 2 + T.length + 1)
      omega
    split
    · rename_i g
      have := he15 (by omega) (by omega)
      simp only [List.length_append, List.length_cons, List.length_nil]
      have t1 := hT (a + 1) (b + e.comp.length + 2)
      omega
    · rw [List.length_nil]
      omega
theorem compCs_ln {ps : List PF} (hp : Prog ps) {z : List Int} {calls : Int} (hc : calls ≤ (ps.length : Int) - 1) : ∀ l : List PC, errCs (ps.map PF.params) z calls l = 0 → ∀ a b, (compCs l a b).length ≤ 48 * cntP l
  | [], _, a, b => by rw [compCs, cntP]; simp
  | x :: xs, hl, a, b => by
    rw [errCs] at hl
    obtain ⟨h3, h4⟩ := orE_eq_zero hl
    have h5 := comp_ln hp hc x h3 a b
    have h6 := compCs_ln hp hc xs h4 (a + x.cnt) (b + (x.comp a b).length)
    rw [compCs, cntP, List.length_append]
    omega
theorem compTo_ln {ps : List PF} (hp : Prog ps) : ∀ j, j ≤ ps.length → (compTo ps j).length ≤ 48 * ((ps.take j).map fun f => cntP f.cmds).sum + 16 * j
  | 0, _ => by rw [compTo]; simp
  | j + 1, hj => by
    obtain ⟨G, hG⟩ : ∃ G, ps[j]? = some G := ⟨_, List.getElem?_eq_getElem (by omega)⟩
    obtain ⟨calls, hcalls, herr⟩ := (hp.fns j G hG).cmds
    have ih := compTo_ln hp j (by omega)
    have h1 := compCs_ln hp hcalls G.cmds herr (firstC ps j) ((compTo ps j).length : Nat)
    rw [compTo, getD_of hG, List.length_append, compF, List.length_append, take_snoc hG, List.map_append, List.sum_append]
    simp only [List.map_cons, List.map_nil, List.sum_cons, List.sum_nil]
    have h2 : (if j + 1 = ps.length then [(⟨14, 0, 0⟩ : Ins)] else G.result.comp ++ [⟨13, 0, 0⟩]).length ≤ 16 := by
      split
      · simp
      · have := PE.err_len ((hp.fns j G hG).res (by omega))
        rw [List.length_append, List.length_singleton]
        omega
    omega
theorem compTo_small {ps : List PF} (hp : Prog ps) : (compTo ps ps.length).length ≤ 2100 := by
  have h1 := compTo_ln hp ps.length (Nat.le_refl _)
  rw [List.take_length] at h1
  have := hp.many
  have := hp.six
  omega
theorem comp_ok {ps : List PF} (hp : Prog ps) {z : List Int} {calls n : Int} (hc : calls ≤ (ps.length : Int) - 1) : ∀ x : PC, x.err (ps.map PF.params) z calls = 0 → ∀ a b, 0 ≤ a → 0 ≤ b → b + (x.comp a b).length ≤ n - 1 → ∀ i ∈ x.comp a b, InsOk n ps.length i :=
  PC.ind fun k v f ix e args thn els h1 h2 herr a b ha hb hn => by
    obtain ⟨hown, ht, he⟩ := PC.err_ok herr
    have hcl : ∀ (l : List PC), (∀ x ∈ l, x.err (ps.map PF.params) z calls = 0 → ∀ a b, 0 ≤ a → 0 ≤ b → b + (x.comp a b).length ≤ n - 1 → ∀ i ∈ x.comp a b, InsOk n ps.length i) → errCs (ps.map PF.params) z calls l = 0 → ∀ a b, 0 ≤ a → 0 ≤ b → b + (compCs l a b).length ≤ n - 1 → ∀ i ∈ compCs l a b, InsOk n ps.length i := by
      intro l
      induction l with
      | nil => intro _ _ a b _ _ _ i hi; rw [compCs] at hi; simp at hi
      | cons x xs ih =>
        intro hx hl a b ha hb hn i hi
        rw [errCs] at hl
        obtain ⟨h3, h4⟩ := orE_eq_zero hl
        rw [compCs] at hi hn
        rw [List.length_append] at hn
        rcases List.mem_append.1 hi with hi | hi
        · exact hx x (by simp) h3 a b ha hb (by omega) i hi
        · exact ih (fun y hy => hx y (by simp [hy])) h4 _ _ (by omega) (by omega) (by omega) i hi
    have hT := hcl thn h1 ht
    have hE := hcl els h2 he
    have heo : k ≠ 3 → k ≠ 4 → ∀ i ∈ e.comp, InsOk n ps.length i := fun g1 g2 => expr_ok z e (PE.err_ok (hown.expr g1 g2))
    have hvar : k ≤ 4 → 0 ≤ v := fun g => (hown.var g).1
    have hk1 : 1 ≤ k := hown.k1
    rw [PC.comp] at hn ⊢
    rw [List.length_cons] at hn
    intro i hi
    rcases List.mem_cons.1 hi with rfl | hi
    · exact insOk_nat (by omega) ha
    by_cases g1 : k = 1
    · rw [if_pos g1] at hi
      rcases List.mem_append.1 hi with hi | hi
      · exact heo (by omega) (by omega) i hi
      · obtain rfl := List.mem_singleton.1 hi
        exact insOk_nat (by omega) (hvar (by omega))
    rw [if_neg g1] at hi hn
    by_cases g2 : k = 2
    · rw [if_pos g2] at hi
      rcases List.mem_append.1 hi with hi | hi
      · exact expr_ok z ix (PE.err_ok (hown.index g2)) i hi
      rcases List.mem_append.1 hi with hi | hi
      · exact heo (by omega) (by omega) i hi
      · obtain rfl := List.mem_singleton.1 hi
        exact insOk_nat (by omega) (hvar (by omega))
    rw [if_neg g2] at hi hn
    by_cases g3 : k = 3
    · rw [if_pos g3] at hi
      have ha3 := (hp.args (x := .mk k v f ix e args thn els) (hown.fn g3).1 (by have := (hown.fn g3).2; omega) (hown.args g3)).1
      rcases List.mem_append.1 hi with hi | hi
      · obtain ⟨y, hy, h5⟩ := compA_in hi
        exact expr_ok z y (PE.err_ok (hown.all y hy)) i h5
      · rcases List.mem_cons.1 hi with rfl | hi
        · have hf1 : 0 ≤ f := (hown.fn g3).1
          have hf2 : f < calls := (hown.fn g3).2
          have ha3 : args.length ≤ 3 := ha3
          exact insOk_call hf1 (by omega) (by omega) (by omega)
        · obtain rfl := List.mem_singleton.1 hi
          exact insOk_nat (by omega) (hvar (by omega))
    rw [if_neg g3] at hi hn
    by_cases g4 : k = 4
    · rw [if_pos g4] at hi
      obtain rfl := List.mem_singleton.1 hi
      exact insOk_nat (by omega) (hvar (by omega))
    rw [if_neg g4] at hi hn
    by_cases g5 : k = 5
    · rw [if_pos g5] at hi
      rcases List.mem_append.1 hi with hi | hi
      · exact heo g3 g4 i hi
      · obtain rfl := List.mem_singleton.1 hi
        exact insOk_none (by omega)
    rw [if_neg g5] at hi hn
    by_cases g6 : k = 6
    · rw [if_pos g6] at hi hn
      have t1 := hT (a + 1) (b + e.comp.length + 2) (by omega) (by omega)
      generalize compCs thn (a + 1) (b + e.comp.length + 2) = T at *
      have t2 := hE (a + 1 + cntP thn) (b + e.comp.length + 2 + T.length + 1) (by omega) (by omega)
      generalize compCs els (a + 1 + cntP thn) (b + e.comp.length + 2 + T.length + 1) = U at *
      simp only [List.length_append, List.length_cons] at hn
      rcases List.mem_append.1 hi with hi | hi
      · exact heo g3 g4 i hi
      rcases List.mem_cons.1 hi with rfl | hi
      · exact insOk_goto (by omega) (by omega) (by omega)
      rcases List.mem_append.1 hi with hi | hi
      · exact t1 (by omega) i hi
      rcases List.mem_cons.1 hi with rfl | hi
      · exact insOk_goto (by omega) (by omega) (by omega)
      · exact t2 (by omega) i hi
    rw [if_neg g6] at hi hn
    by_cases g7 : k = 7
    · rw [if_pos g7] at hi hn
      have t1 := hT (a + 1) (b + e.comp.length + 2) (by omega) (by omega)
      generalize compCs thn (a + 1) (b + e.comp.length + 2) = T at *
      simp only [List.length_append, List.length_cons, List.length_nil] at hn
      rcases List.mem_append.1 hi with hi | hi
      · exact heo g3 g4 i hi
      rcases List.mem_cons.1 hi with rfl | hi
      · exact insOk_goto (by omega) (by omega) (by omega)
      rcases List.mem_append.1 hi with hi | hi
      · exact t1 (by omega) i hi
      · obtain rfl := List.mem_singleton.1 hi
        exact insOk_goto (by omega) (by omega) (by omega)
    · rw [if_neg g7] at hi
      simp at hi
theorem compCs_ok {ps : List PF} (hp : Prog ps) {z : List Int} {calls n : Int} (hc : calls ≤ (ps.length : Int) - 1) : ∀ l : List PC, errCs (ps.map PF.params) z calls l = 0 → ∀ a b, 0 ≤ a → 0 ≤ b → b + (compCs l a b).length ≤ n - 1 → ∀ i ∈ compCs l a b, InsOk n ps.length i
  | [], _, a, b, _, _, _, i, hi => by rw [compCs] at hi; simp at hi
  | x :: xs, hl, a, b, ha, hb, hn, i, hi => by
    rw [errCs] at hl
    obtain ⟨h3, h4⟩ := orE_eq_zero hl
    rw [compCs] at hi hn
    rw [List.length_append] at hn
    rcases List.mem_append.1 hi with hi | hi
    · exact comp_ok hp hc x h3 a b ha hb (by omega) i hi
    · exact compCs_ok hp hc xs h4 _ _ (by omega) (by omega) (by omega) i hi
theorem compTo_ok {ps : List PF} (hp : Prog ps) {n : Int} (hn : n = (compTo ps ps.length).length) : ∀ j, j ≤ ps.length → ∀ i ∈ compTo ps j, InsOk n ps.length i
  | 0, _, i, hi => by rw [compTo] at hi; simp at hi
  | j + 1, hj, i, hi => by
    obtain ⟨G, hG⟩ : ∃ G, ps[j]? = some G := ⟨_, List.getElem?_eq_getElem (by omega)⟩
    obtain ⟨calls, hcalls, herr⟩ := (hp.fns j G hG).cmds
    have hle := compTo_le ps (j + 1) ps.length hj
    rw [compTo, getD_of hG] at hi hle
    rw [List.length_append, compF, List.length_append] at hle
    rcases List.mem_append.1 hi with hi | hi
    · exact compTo_ok hp hn j (by omega) i hi
    rw [compF] at hi
    have h1 : 1 ≤ (if j + 1 = ps.length then [(⟨14, 0, 0⟩ : Ins)] else G.result.comp ++ [⟨13, 0, 0⟩]).length := by
      split
      · simp
      · rw [List.length_append, List.length_singleton]
        omega
    rcases List.mem_append.1 hi with hi | hi
    · exact compCs_ok hp hcalls G.cmds herr _ _ (firstC_le ps j G hG).1 (by omega) (by omega) i hi
    · by_cases h : j + 1 = ps.length
      · rw [if_pos h] at hi
        obtain rfl := List.mem_singleton.1 hi
        exact insOk_none (by omega)
      · rw [if_neg h] at hi
        rcases List.mem_append.1 hi with hi | hi
        · exact expr_ok G.sizes G.result (PE.err_ok ((hp.fns j G hG).res (by omega))) i hi
        · obtain rfl := List.mem_singleton.1 hi
          exact insOk_none (by omega)
theorem insEs_ok {c : Cd} : ∀ {l : List Ins}, (∀ i ∈ l, insE c i = 0) → insEs c l = 0
  | [], _ => rfl
  | x :: xs, h => by
    rw [insEs, if_neg (by rw [h x (by simp)]; decide)]
    exact insEs_ok fun i hi => h i (by simp [hi])
theorem compP_first (ps : List PF) : (compP ps).first.length = ps.length := by show ((List.range ps.length).map _).length = _; rw [List.length_map, List.length_range]
theorem compP_ok {ps : List PF} (hp : Prog ps) : codeE (compP ps) = 0 := by
  have hs := compTo_small hp
  have hpos := hp.pos
  have hf := compP_first ps
  have hz : (compP ps).sizes.length = ps.length := by show (ps.map _).length = _; rw [List.length_map]
  rw [codeE_ins (c := compP ps) (by show ¬ 3000 < (compTo ps ps.length).length; omega) (by omega) ⟨fun x hx => ?_, fun z hz y hy => ?_⟩]
  · exact insEs_ok fun i hi => compTo_ok hp rfl ps.length (Nat.le_refl _) i hi _ rfl (by rw [hf])
  · obtain ⟨j, hj, rfl⟩ := List.mem_map.1 hx
    have hj := List.mem_range.1 hj
    refine ⟨by omega, ?_⟩
    show ((compTo ps j).length : Int) ≤ ((compTo ps ps.length).length : Int) - 1
    obtain ⟨G, hG⟩ : ∃ G, ps[j]? = some G := ⟨_, List.getElem?_eq_getElem hj⟩
    have hle := compTo_le ps (j + 1) ps.length hj
    rw [compTo, getD_of hG, List.length_append, compF, List.length_append] at hle
    have h1 : 1 ≤ (if j + 1 = ps.length then [(⟨14, 0, 0⟩ : Ins)] else G.result.comp ++ [⟨13, 0, 0⟩]).length := by
      split
      · simp
      · rw [List.length_append, List.length_singleton]
        omega
    omega
  · obtain ⟨G, hG, rfl⟩ := List.mem_map.1 hz
    obtain ⟨j, hj⟩ := List.getElem?_of_mem hG
    exact (hp.fns j G hj).sz y hy
end Go.Proofs.Ytgkpplbomciehaa
