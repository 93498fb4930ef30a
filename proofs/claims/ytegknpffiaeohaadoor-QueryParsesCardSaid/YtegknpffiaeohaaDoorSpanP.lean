/- Where it begins to hold and where it ends: plain words. Each lemma states its own conditions. -/
import Derived.Test.YtegknpffiaeohaaDoorQryK
namespace Go.Proofs.YtegknpffiaeohaaDoor
open Go.RowKit

/-- what is over, and where what is not over began, behind so many -/
def spSt (l : List Bool) : Nat → List (Nat × Nat) × Option Nat
  | 0 => ([], none)
  | t + 1 => match spSt l t with
    | (c, none) => if bg l t then (c, some t) else (c, none)
    | (c, some f) => if bg l t then (c, some f) else (c ++ [(f, t)], none)
def spTo (l : List Bool) (t : Nat) : List (Nat × Nat) := (spSt l t).1 ++ match (spSt l t).2 with | none => [] | some f => [(f, t)]
/-- all of them -/
def spansL (l : List Bool) : List (Nat × Nat) := spTo l l.length
theorem bg_end {l : List Bool} {t : Nat} (h : l.length ≤ t) : bg l t = false := by rw [bg, List.getElem?_eq_none h]; rfl
theorem spSt_idle {l : List Bool} {t : Nat} {c : List (Nat × Nat)} (h : spSt l t = (c, none)) (hb : bg l t = false) : spSt l (t + 1) = (c, none) := by rw [spSt, h]; simp [hb]
theorem spSt_run {l : List Bool} {i : Nat} {c : List (Nat × Nat)} (h : spSt l i = (c, none)) : ∀ e, i < e → (∀ v, i ≤ v → v < e → bg l v = true) → spSt l e = (c, some i) := by
  intro e
  induction e with
  | zero => intro h; omega
  | succ e ih =>
    intro hie hb
    have hbe := hb e (by omega) (by omega)
    rcases Nat.eq_or_lt_of_le (show i ≤ e by omega) with rfl | hlt
    · rw [spSt, h]; simp [hbe]
    · rw [spSt, ih hlt (fun v h1 h2 => hb v h1 (by omega))]; simp [hbe]
theorem spSt_over {l : List Bool} {i e : Nat} {c : List (Nat × Nat)} (h : spSt l i = (c, none)) (hie : i < e) (hb : ∀ v, i ≤ v → v < e → bg l v = true) (he : bg l e = false) : spSt l (e + 1) = (c ++ [(i, e)], none) := by
  rw [spSt, spSt_run h e hie hb]; simp [he]
theorem spSt_pre (l : List Bool) (t : Nat) : (spSt l t).1 <+: (spSt l (t + 1)).1 := by
  rw [spSt]
  rcases spSt l t with ⟨c, _ | f⟩ <;> dsimp only <;> split <;> simp
theorem spSt_le {l : List Bool} {i j : Nat} (h : i ≤ j) : (spSt l i).1 <+: (spSt l j).1 := by
  induction j with
  | zero => obtain rfl : i = 0 := by omega
            exact List.prefix_refl _
  | succ j ih =>
    rcases Nat.eq_or_lt_of_le h with rfl | hlt
    · exact List.prefix_refl _
    · exact (ih (by omega)).trans (spSt_pre l j)
theorem spansL_end (l : List Bool) : spSt l (l.length + 1) = (spansL l, none) := by
  unfold spansL spTo
  rw [spSt]
  rcases h : spSt l l.length with ⟨c, _ | f⟩ <;> simp [bg_end (Nat.le_refl _)]
theorem spSt_pref {l : List Bool} {i : Nat} {c : List (Nat × Nat)} {o : Option Nat} (h : spSt l i = (c, o)) (hi : i ≤ l.length + 1) : c <+: spansL l := by
  have := spSt_le (l := l) hi
  rw [h, spansL_end] at this
  exact this
theorem spSt_open {l : List Bool} : ∀ {t : Nat} {c : List (Nat × Nat)} {f : Nat}, spSt l t = (c, some f) → f < t ∧ bg l (t - 1) = true ∧ ∀ v, f ≤ v → v < t → bg l v = true := by
  intro t
  induction t with
  | zero => intro c f h; simp [spSt] at h
  | succ t ih =>
    intro c f h
    rw [spSt] at h
    rcases hs : spSt l t with ⟨c', _ | f'⟩
    · rw [hs] at h
      cases hb : bg l t with
      | false => simp [hb] at h
      | true =>
        simp [hb] at h
        obtain ⟨_, rfl⟩ := h
        exact ⟨by omega, hb, fun v h1 h2 => by rw [show v = t by omega]; exact hb⟩
    · rw [hs] at h
      cases hb : bg l t with
      | false => simp [hb] at h
      | true =>
        simp [hb] at h
        obtain ⟨_, rfl⟩ := h
        obtain ⟨h1, _, h3⟩ := ih hs
        exact ⟨by omega, hb, fun v h4 h5 => by rcases Nat.lt_or_ge v t with h6 | h6; exact h3 v h4 h6; rw [show v = t by omega]; exact hb⟩
theorem spSt_shut {l : List Bool} {t : Nat} {c : List (Nat × Nat)} (h : spSt l (t + 1) = (c, none)) : bg l t = false := by
  rw [spSt] at h
  rcases hs : spSt l t with ⟨c', _ | f'⟩ <;> rw [hs] at h <;> cases hb : bg l t <;> simp [hb] at h <;> rfl

/-- numbers from one to another -/
def segI (lo hi : Int) : List Int := (List.range (hi - lo).toNat).map fun (d : Nat) => lo + (d : Int)
theorem segI_nil {lo hi : Int} (h : hi ≤ lo) : segI lo hi = [] := by
  unfold segI
  rw [show (hi - lo).toNat = 0 by omega]
  rfl
theorem segI_succ {lo hi : Int} (h : lo ≤ hi) : segI lo (hi + 1) = segI lo hi ++ [hi] := by
  unfold segI
  rw [show (hi + 1 - lo).toNat = (hi - lo).toNat + 1 by omega, List.range_succ, List.map_append]
  congr 1
  simp
  omega
/-- the times of the first so many -/
def timesL (l : List Bool) (a b : Int) : Nat → List Int
  | 0 => []
  | t + 1 => timesL l a b t ++ if bg l t = true ∧ a ≤ t ∧ t < b then [(t : Int)] else []
theorem segI_one (f t : Nat) (a b : Int) (h : f ≤ t) : segI (max f a) (min ((t + 1 : Nat) : Int) b) = segI (max f a) (min (t : Int) b) ++ if a ≤ t ∧ t < b then [(t : Int)] else [] := by
  by_cases hc : a ≤ t ∧ (t : Int) < b
  · rw [if_pos hc, show min ((t + 1 : Nat) : Int) b = (t : Int) + 1 by omega, show min (t : Int) b = t by omega, segI_succ (by omega)]
  · rw [if_neg hc, List.append_nil]
    by_cases hb : (t : Int) < b
    · rw [segI_nil (by omega), segI_nil (by omega)]
    · rw [show min ((t + 1 : Nat) : Int) b = b by omega, show min (t : Int) b = b by omega]
def segs (a b : Int) (c : List (Nat × Nat)) : List Int := c.flatMap fun x => segI (max x.1 a) (min x.2 b)
theorem segs_snoc (a b : Int) (c : List (Nat × Nat)) (x : Nat × Nat) : segs a b (c ++ [x]) = segs a b c ++ segI (max x.1 a) (min x.2 b) := by
  unfold segs
  rw [List.flatMap_append, List.flatMap_cons, List.flatMap_nil, List.append_nil]
theorem timesL_segs (l : List Bool) (a b : Int) : ∀ t, timesL l a b t = segs a b (spTo l t) := by
  intro t
  induction t with
  | zero => rfl
  | succ t ih =>
    rw [timesL, ih]
    unfold spTo
    rw [spSt]
    rcases hs : spSt l t with ⟨c, _ | f⟩ <;> cases hb : bg l t
    · simp []
    · simp only [if_true, true_and, List.append_nil]
      rw [segs_snoc]
      dsimp only
      rw [segI_one t t a b (Nat.le_refl _), segI_nil (lo := max _ _) (hi := min _ _) (by omega), List.nil_append]
    · simp []
    · simp only [if_true, true_and]
      rw [segs_snoc, segs_snoc]
      dsimp only
      rw [segI_one f t a b (by have := (spSt_open hs).1; omega), List.append_assoc]
theorem times_spans (l : List Bool) (a b : Int) : segs a b (spansL l) = timesL l a b l.length := by rw [timesL_segs]; rfl

/-- the first time -/
def First (l : List Bool) (from_ to : Nat) (x : Int) (is : Bool) : Prop := (is = false ∧ x = 0 ∧ ∀ v, from_ ≤ v → v < to → bg l v = false) ∨ (is = true ∧ ∃ u : Nat, x = u ∧ from_ ≤ u ∧ u < to ∧ bg l u = true ∧ ∀ v, from_ ≤ v → v < u → bg l v = false)
theorem First.eq {l : List Bool} {a b : Nat} {x y : Int} {i j : Bool} (h : First l a b x i) (k : First l a b y j) : x = y ∧ i = j := by
  rcases h with ⟨rfl, rfl, h⟩ | ⟨rfl, u, rfl, h1, h2, h3, h4⟩ <;> rcases k with ⟨rfl, rfl, k⟩ | ⟨rfl, v, rfl, k1, k2, k3, k4⟩
  · exact ⟨rfl, rfl⟩
  · have := h v k1 k2; rw [k3] at this; cases this
  · have := k u h1 h2; rw [h3] at this; cases this
  · rcases Nat.lt_trichotomy u v with e | e | e
    · have := k4 u h1 e; rw [h3] at this; cases this
    · exact ⟨by rw [e], rfl⟩
    · have := h4 v k1 e; rw [k3] at this; cases this
theorem First.on {l : List Bool} {t n : Nat} {x : Int} {is : Bool} (h : First l (t + 1) n x is) (hb : bg l t = false) : First l t n x is := by
  rcases h with ⟨rfl, rfl, h⟩ | ⟨rfl, u, rfl, h1, h2, h3, h4⟩
  · exact .inl ⟨rfl, rfl, fun v h1 h2 => by rcases Nat.eq_or_lt_of_le h1 with rfl | h3; exact hb; exact h v h3 h2⟩
  · exact .inr ⟨rfl, u, rfl, by omega, h2, h3, fun v h5 h6 => by rcases Nat.eq_or_lt_of_le h5 with rfl | h7; exact hb; exact h4 v h7 h6⟩
theorem First.here {l : List Bool} {t n : Nat} (h : t < n) (hb : bg l t = true) : First l t n t true := .inr ⟨rfl, t, rfl, Nat.le_refl _, h, hb, fun v h1 h2 => by omega⟩
/-- .. of what there is at the head of the spans -/
theorem spSt_first (l : List Bool) : ∀ t, (∀ c, spSt l t = (c, none) → c = [] → ∀ v, v < t → bg l v = false) ∧ (∀ c f, spSt l t = (c, some f) → c = [] → ∀ v, v < f → bg l v = false) ∧
    (∀ x c o, spSt l t = (x :: c, o) → bg l x.1 = true ∧ x.1 < t ∧ ∀ v, v < x.1 → bg l v = false) := by
  intro t
  induction t with
  | zero =>
    refine ⟨fun c h _ v hv => by omega, fun c f h => ?_, fun x c o h => ?_⟩ <;> simp [spSt] at h
  | succ t ih =>
    obtain ⟨i1, i2, i3⟩ := ih
    rw [spSt]
    rcases hs : spSt l t with ⟨c', _ | f'⟩ <;> cases hb : bg l t
    · refine ⟨fun c h e v hv => ?_, fun c f h => ?_, fun x c o h => ?_⟩
      · simp [] at h
        rcases Nat.lt_or_ge v t with h6 | h6
        · exact i1 c' hs (h.trans e) v h6
        · rw [show v = t by omega]; exact hb
      · simp [] at h
      · simp [] at h
        obtain ⟨rfl, _⟩ := h
        obtain ⟨h1, h2, h3⟩ := i3 x c _ hs
        exact ⟨h1, by omega, h3⟩
    · refine ⟨fun c h => ?_, fun c f h e v hv => ?_, fun x c o h => ?_⟩
      · simp [] at h
      · simp [] at h
        obtain ⟨h1, rfl⟩ := h
        exact i1 c' hs (h1.trans e) v hv
      · simp [] at h
        obtain ⟨rfl, _⟩ := h
        obtain ⟨h1, h2, h3⟩ := i3 x c _ hs
        exact ⟨h1, by omega, h3⟩
    · have ho := spSt_open hs
      refine ⟨fun c h e => ?_, fun c f h => ?_, fun x c o h => ?_⟩
      · simp [] at h
        rw [← h] at e
        simp at e
      · simp [] at h
      · simp [] at h
        obtain ⟨h, _⟩ := h
        cases c' with
        | nil =>
          simp at h
          obtain ⟨rfl, _⟩ := h
          exact ⟨ho.2.2 f' (Nat.le_refl _) ho.1, by have := ho.1; dsimp only; omega, i2 [] f' hs rfl⟩
        | cons y ys =>
          simp at h
          obtain ⟨rfl, _⟩ := h
          obtain ⟨h1, h2, h3⟩ := i3 _ _ _ hs
          exact ⟨h1, by omega, h3⟩
    · refine ⟨fun c h => ?_, fun c f h e v hv => ?_, fun x c o h => ?_⟩
      · simp [] at h
      · simp [] at h
        obtain ⟨h1, rfl⟩ := h
        exact i2 c' f' hs (h1.trans e) v hv
      · simp [] at h
        obtain ⟨rfl, _⟩ := h
        obtain ⟨h1, h2, h3⟩ := i3 x c _ hs
        exact ⟨h1, by omega, h3⟩
theorem first_none {l : List Bool} (h : spansL l = []) : First l 0 l.length 0 false := .inl ⟨rfl, rfl, fun v _ hv => (spSt_first l (l.length + 1)).1 _ (spansL_end l) h v (by omega)⟩
theorem first_some {l : List Bool} {x : Nat × Nat} {c : List (Nat × Nat)} (h : spansL l = x :: c) : First l 0 l.length x.1 true := by
  have he := spansL_end l
  rw [h] at he
  obtain ⟨h1, h2, h3⟩ := (spSt_first l (l.length + 1)).2.2 x c none he
  refine .inr ⟨rfl, x.1, rfl, by omega, ?_, h1, fun v _ hv => h3 v hv⟩
  rcases Nat.lt_or_ge x.1 l.length with h4 | h4
  · exact h4
  · rw [bg_end h4] at h1; cases h1

/-- spans lie apart -/
def Apart (m n : Nat) : List (Nat × Nat) → Prop
  | [] => True
  | x :: xs => m ≤ x.1 ∧ x.1 < x.2 ∧ x.2 ≤ n ∧ Apart (x.2 + 1) n xs
theorem Apart.snoc {n n' : Nat} {x : Nat × Nat} (h2 : x.1 < x.2) (h3 : x.2 ≤ n') (hn : n ≤ n') : ∀ {m : Nat} {c : List (Nat × Nat)}, Apart m n c → (∀ y ∈ c, y.2 < x.1) → m ≤ x.1 → Apart m n' (c ++ [x])
  | _, [], _, _, hm => ⟨hm, h2, h3, trivial⟩
  | _, y :: ys, ⟨a, b, c, d⟩, hy, _ => ⟨a, b, by omega, Apart.snoc h2 h3 hn d (fun z hz => hy z (by simp [hz])) (by have := hy y (by simp); omega)⟩
theorem Apart.le {n n' : Nat} (hn : n ≤ n') : ∀ {m : Nat} {c : List (Nat × Nat)}, Apart m n c → Apart m n' c
  | _, [], _ => trivial
  | _, _ :: _, ⟨a, b, c, d⟩ => ⟨a, b, by omega, d.le hn⟩
theorem spSt_apart (l : List Bool) : ∀ t, Apart 0 t (spSt l t).1 ∧ (∀ f, (spSt l t).2 = some f → ∀ y ∈ (spSt l t).1, y.2 < f) ∧ ((spSt l t).2 = none → ∀ y ∈ (spSt l t).1, y.2 < t) := by
  intro t
  induction t with
  | zero => exact ⟨trivial, fun f h => by simp [spSt] at h, fun _ y hy => by simp [spSt] at hy⟩
  | succ t ih =>
    obtain ⟨i1, i2, i3⟩ := ih
    rw [spSt]
    rcases hs : spSt l t with ⟨c, _ | f⟩ <;> rw [hs] at i1 i2 i3 <;> dsimp only at i1 i2 i3 ⊢ <;> cases hb : bg l t
    · simp only [Bool.false_eq_true, if_false]
      exact ⟨i1.le (by omega), fun f h => by simp at h, fun _ y hy => by have := i3 rfl y hy; omega⟩
    · simp only [if_true]
      exact ⟨i1.le (by omega), fun f h y hy => by simp at h; have := i3 rfl y hy; omega, fun h => by simp at h⟩
    · simp only [Bool.false_eq_true, if_false]
      have hf := (spSt_open hs).1
      refine ⟨Apart.snoc (by dsimp only; omega) (by dsimp only; omega) (by omega) i1 (fun y hy => i2 f rfl y hy) (by omega), fun f h => by simp at h, fun _ y hy => ?_⟩
      rcases List.mem_append.1 hy with hy | hy
      · have := i2 f rfl y hy; omega
      · simp at hy; subst hy; dsimp only; omega
    · simp only [if_true]
      exact ⟨i1.le (by omega), fun f' h y hy => by simp at h; subst h; exact i2 f rfl y hy, fun h => by simp at h⟩
theorem apart_last {m n n' : Nat} : ∀ {c : List (Nat × Nat)}, Apart m n c → (∀ y ∈ c, y.2 ≤ n') → Apart m n' c := by
  intro c
  induction c generalizing m with
  | nil => intro _ _; trivial
  | cons x xs ih => intro ⟨a, b, _, d⟩ h; exact ⟨a, b, h x (by simp), ih d fun y hy => h y (by simp [hy])⟩
theorem spans_apart (l : List Bool) : Apart 0 l.length (spansL l) := by
  have h := spSt_apart l (l.length + 1)
  rw [spansL_end] at h
  exact apart_last h.1 fun y hy => by have := h.2.2 rfl y hy; omega

end Go.Proofs.YtegknpffiaeohaaDoor
