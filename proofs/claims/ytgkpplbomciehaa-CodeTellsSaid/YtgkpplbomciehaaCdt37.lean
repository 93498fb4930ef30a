/- From a contract 'it answers true and leaves all that there was' to what a law's row asks: arguments opened, read again, the frame. Arguments of a law, opened: lists of events. Each lemma states its own conditions. -/
import Derived.Test.YtgkpplbomciehaaCdt01
import Derived.ProofKit
import Derived.SizedLaws
import Derived.Deep.Slices
import Derived.OpenShut
import Derived.Test.YtgkpplbomciehaaRows
namespace Go.Proofs.Ytgkpplbomciehaa
open Go.ChangeShapes Go.WideShapes Go.ChangeAt Go.RowKit
section
variable {H : Type} {enc : TypeId × Value → H} {P : Program}
theorem trodAll_stays (hl : laidOutB P = true) {W W' : World} (hb : Bel W W') : ∀ {ts : List TypeId} {vs : List Value} {ds : List (DataW H)} {ps : List MemPlace}, (∀ t ∈ ts, P.readableRec t = true ∧ t < P.types.size) →
    DataW.TrodAll enc P W 0 (fun _ => true) true ts vs ds ps → (∀ x ∈ ps, x.block < W.heap.size) → DataW.TrodAll enc P W' 0 (fun b => decide (b < W.heap.size)) true ts vs ds ps
  | [], vs, ds, ps, _, h, _ => by
    obtain ⟨rfl, rfl, rfl⟩ := trodAll_nil h
    exact trodAll_mk0
  | t :: ts, vs, ds, ps, ht, h, hlt => by
    obtain ⟨v, vs', d, ds', p, p', rfl, rfl, rfl, h0, h1⟩ := trodAll_cons h
    obtain ⟨hr, hrow⟩ := ht t (by simp)
    exact trodAll_cons_mk (Below.trod hl hr hrow h0 hb (fun x hx => hlt x (by simp [hx]))) (trodAll_stays hl hb (fun t h => ht t (by simp [h])) h1 (fun x hx => hlt x (by simp [hx])))
/-- A LAW's ROW: it answers true; the arguments read as they did. -/
theorem law_post {fn : Func} {s : ChangeSpec} {tb : TypeId} (hv : s.vars = []) (hrt : fn.resultTypes = #[tb]) (htb : P.underlying tb = some .bool) (hl : laidOutB P = true) (hp : ∀ t ∈ fn.params.toList, P.readableRec t = true ∧ t < P.types.size)
    {W W' : World} {args : Array Value} {ds gs : List (DataW H)} {before : List MemPlace} (hW : DataW.Whole enc P fn.params.toList s.vars false W args.toList ds gs before)
    (hs : s.fn H (ds ++ gs) = { results := [.lit (.bool true)], args := ds }) (hb : Bel W W') : s.post enc P fn false true false false W args (.bool true) W' := by
  have hW' := hW
  obtain ⟨p, q, hA, hV, rfl, _, _⟩ := hW
  rw [hv] at hV
  obtain ⟨rfl, rfl⟩ := trodVars_none hV
  have hlt : ∀ x ∈ p, x.block < W.heap.size := fun x hx => hW'.lt x (by simp [hx])
  refine ⟨ds, [], p ++ [], [], p, [], hW', ?_, ?_, ?_, hb.frame _, fun h => by cases h⟩
  · rw [hs, hrt]
    have e : (Value.bool true).resultList (#[tb].size) = [Value.bool true] := rfl
    rw [e]
    exact trodAll_mk1 (shut_bool htb _)
  · rw [hs]
    exact trodAll_stays hl hb hp hA hlt
  · rw [hs, hv]
    rfl
/-- elements of a type, opened: what they read as, and what is known of it -/
def Opens (enc : TypeId × Value → H) (P : Program) (W : World) {α : Type} (r : Rep α) (ok : α → Prop) (e : TypeId) : Prop :=
  ∀ (n : Nat) (cs : List Value) (y : DataW H × List MemPlace), cs.length = r.size → DataW.trod enc P W 0 (fun _ => true) true n e cs = some y → ∃ x, r.R W cs x ∧ ok x
theorem cells_lit {w : World} {a : Addr} {n : Nat} {cs : List Value} (h : ∀ i, i < n → w.cell? (a.add i) = cs[i]?) (hl : cs.length = n) (hn : 0 < n) : a.spot = none := by
  have h0 := h 0 hn
  have : cs[0]? = some (cs[0]'(by omega)) := List.getElem?_eq_getElem (by omega)
  rw [this] at h0
  simpa [Addr.add] using World.cell?_spot h0
/-- a slice whose elements open -/
theorem open_sl {W : World} {α : Type} {r : Rep α} {ok : α → Prop} {t e : TypeId} (ht : P.underlying t = some (.slice e)) (hC : P.cellsOf e = r.size) (h0 : 0 < r.size) (hel : Opens enc P W r ok e)
    {fuel : Nat} {cs : List Value} {x : DataW H × List MemPlace} (h : DataW.trod enc P W 0 (fun _ => true) true fuel t cs = some x) :
    ∃ v xs, cs = [v] ∧ Sl r W v xs ∧ (∀ x ∈ xs, ok x) ∧ ((x.1 = .nil ∧ xs = []) ∨ ∃ elems spare, x.1 = .slice elems spare ∧ elems.length = xs.length) := by
  rcases Deep.open_slice ht h with ⟨rfl, rfl⟩ | ⟨a, len, cap, m, n, D, Pl, rfl, _, hlc, hcm, hm, rfl, hi⟩
  · exact ⟨_, [], rfl, Sl.nil_ _ _, by simp, .inl ⟨rfl, rfl⟩⟩
  · simp only [if_true] at hm
    subst hm
    rw [hC] at hi
    have hx : ∀ i, i < len → ∃ x, ok x ∧ ∃ cs', r.R W cs' x ∧ ∀ j, j < r.size → W.cell? ((a.add (i * r.size)).add j) = cs'[j]? := fun i hlt => by
      obtain ⟨cs', hc, htr⟩ := hi i (by omega)
      obtain ⟨_, hl, hcell⟩ := World.cells?_some hc
      obtain ⟨x, hR, hok⟩ := hel _ _ _ hl htr
      exact ⟨x, hok, cs', hR, hcell⟩
    have hspot : 0 < len → a.spot = none := fun hp => by
      obtain ⟨x, _, cs', hR, hcell⟩ := hx 0 hp
      refine cells_lit (w := W) (n := r.size) (cs := cs') (fun i hi' => ?_) (r.len hR) h0
      have := hcell i hi'
      simpa [Addr.add] using this
    refine ⟨_, (List.range len).pmap (fun i hi' => Classical.choose (hx i hi')) (fun i hi' => List.mem_range.1 hi'), rfl, ⟨some a, m, by simp, by simpa using hlc, ⟨hcm, fun h => by cases h⟩, fun hp => ?_⟩, ?_, .inr ⟨_, _, rfl, by simp⟩⟩
    · have hs := hspot (by simpa using hp)
      obtain ⟨b, o, sp⟩ := a
      simp only at hs
      subst hs
      refine ⟨b, o, rfl, fun k x hk => ?_⟩
      rw [List.getElem?_pmap] at hk
      have hk2 : k < len := by
        rcases Nat.lt_or_ge k len with h | h
        · exact h
        · simp [h] at hk
      simp only [List.getElem?_range hk2, Option.pmap_some, Option.some.injEq] at hk
      obtain ⟨_, cs', hR, hcell⟩ := Classical.choose_spec (hx k hk2)
      rw [hk] at hR
      refine ⟨cs', hR, fun j u hu => ?_⟩
      have hj : j < r.size := by rw [← r.len hR]; exact (List.getElem?_eq_some_iff.1 hu).1
      have h1 := hcell j hj
      rw [hu] at h1
      have e1 : ((⟨b, o, none⟩ : Addr).add (k * r.size)).add j = ⟨b, o + k * r.size + j, none⟩ := by
        unfold Addr.add
        by_cases hk0 : k * r.size = 0 <;> by_cases hj0 : j = 0 <;> simp [hk0, hj0]
      rw [e1] at h1
      exact h1
    · intro x hx'
      obtain ⟨i, hi', rfl⟩ := List.mem_pmap.1 hx'
      exact (Classical.choose_spec (hx i (List.mem_range.1 hi'))).1
/-- events whose numbers are those of ints -/
def isI64 (n : Int) : Prop := -9223372036854775808 ≤ n ∧ n ≤ 9223372036854775807
theorem isI64_of {n : Int} (h : (Lit.int .i64 n).wf = true) : isI64 n := by
  have h1 : IntKind.i64.min = -9223372036854775808 := rfl
  have h2 : IntKind.i64.max = 9223372036854775807 := rfl
  simp only [Lit.wf, Bool.and_eq_true, decide_eq_true_eq] at h
  unfold isI64
  omega
theorem opens_int {W : World} {t : TypeId} (ht : P.underlying t = some (.int .i64)) : Opens enc P W intR isI64 t := by
  intro n cs y _ h
  obtain ⟨k, rfl, _, hw⟩ := DataW.trod_int ht h
  exact ⟨k, rfl, isI64_of hw⟩
end
end Go.Proofs.Ytgkpplbomciehaa
namespace Go.Proofs.Ytgkpplbomciehaa
open Go.ChangeShapes Go.WideShapes Go.ChangeAt Go.RowKit
theorem ownK : ownKnob Try.prog.godebug = none := by kernel_rfl
theorem laidOutK : laidOutB Try.prog = true := by kernel_rfl
theorem cellsInt : Try.prog.cellsOf 3 = 1 := by kernel_rfl
end Go.Proofs.Ytgkpplbomciehaa
