/- Maps that a call makes: what a look-up and a store do to the block, for any kind of keys that can be told apart. -/
import Derived.Test.YtdfbhlehfbckjaaOwn
import Derived.MapKept
import Derived.WideKeyEntry
import Derived.Laws.StructEq
namespace Go.Proofs.Ytdfbhlehfbckjaa
open Go.RowKit

/-- keys of which 'ok' holds can be looked up -/
structure MapKey (P : Program) (K : TypeId) (ok : Value → Prop) : Prop where
  check : ∀ (w : World) (em : Bool) (v : Value), ok v → (Instr.checkKey em 10000 K v).run P w = .ok () w
  find : ∀ (w : World) (x : Value), ok x → ∀ es : List MapEntry, (∀ e ∈ es, ok e.key) →
    ((Instr.findKey K x es).run P w = .ok none w ∧ ∀ e ∈ es, e.key ≠ x) ∨ ∃ j e, (Instr.findKey K x es).run P w = .ok (some (j, e.val)) w ∧ es[j]? = some e ∧ e.key = x
  stays : ∀ (w : World) (v : Value), ok v → (Instr.keyThatStays v v).run P w = .ok v w

def setB (w : World) (b : Nat) (o : Obj) : World := { w with heap := w.heap.setIfInBounds b o }
theorem setB_get {w : World} {b : Nat} {o o' : Obj} (h : w.heap[b]? = some o) : (setB w b o').heap[b]? = some o' := (MapKept.heap_set h).1
theorem setB_other {w : World} {b k : Nat} (o' : Obj) (h : k ≠ b) : (setB w b o').heap[k]? = w.heap[k]? := by
  unfold setB
  simp [Ne.symm h]
@[go_sem] theorem setB_size (w : World) (b : Nat) (o : Obj) : (setB w b o).heap.size = w.heap.size := by simp [setB]
theorem setB_alloc {w : World} {b : Nat} {o c : Obj} (h : b < w.heap.size) : setB (w.alloc c) b o = (setB w b o).alloc c := by
  have : (w.heap.push c).setIfInBounds b o = (w.heap.setIfInBounds b o).push c := by
    apply Array.ext_getElem?
    intro i
    simp only [Array.getElem?_setIfInBounds, Array.getElem?_push, Array.size_push, Array.size_setIfInBounds]
    by_cases h1 : b = i
    · subst h1
      rw [if_pos rfl, if_pos (by omega), if_neg (by omega), if_pos rfl, if_pos h]
    · rw [if_neg h1, if_neg h1]
  show ({ w with heap := (w.heap.push c).setIfInBounds b o } : World) = { w with heap := (w.heap.setIfInBounds b o).push c }
  rw [this]
theorem cell_al {w : World} {b o : Nat} {v : Value} {x : Obj} (h : w.cell? ⟨b, o, none⟩ = some v) : (w.alloc x).cell? ⟨b, o, none⟩ = some v := ((Bel.rfl_ w).al x).cell h
theorem cell_dr {w : World} {b o : Nat} {v : Value} (h : w.cell? ⟨b, o, none⟩ = some v) : w.drew.cell? ⟨b, o, none⟩ = some v := h
theorem setB_cell {w : World} {mb b o : Nat} {v : Value} (x : Obj) (h : w.cell? ⟨b, o, none⟩ = some v) (hne : b ≠ mb) : (setB w mb x).cell? ⟨b, o, none⟩ = some v :=
  (World.cell?_of_block (setB_other x hne)).trans h
theorem setB_grown (w : World) (b : Nat) (o : Obj) : w.grownBy (setB w b o) (some b) :=
  ⟨rfl, rfl, rfl, by rw [setB_size]; exact Nat.le_refl _, fun k _ hne => setB_other o (fun e => hne (by rw [e]))⟩

theorem key_once {es : Array MapEntry} {clock j j' : Nat} {e e' : MapEntry} (hs : MapKept.Stamped es clock) (h : es.toList[j]? = some e) (h' : es.toList[j']? = some e') (hk : e.key = e'.key) : j = j' ∧ e = e' := by
  have hnd := hs.2.2
  have h1 : (es.toList.map (·.key))[j]? = some e.key := by rw [List.getElem?_map, h]; rfl
  have h2 : (es.toList.map (·.key))[j']? = some e.key := by rw [List.getElem?_map, h', hk]; rfl
  have hj : j = j' := by
    obtain ⟨l1, g1⟩ := List.getElem?_eq_some_iff.1 h1
    obtain ⟨l2, g2⟩ := List.getElem?_eq_some_iff.1 h2
    exact (List.getElem_inj hnd).1 (g1.trans g2.symm)
  subst hj
  rw [h] at h'
  exact ⟨rfl, Option.some.inj h'⟩

section
variable {P : Program} {K T E : TypeId} {ok : Value → Prop} {mb : Nat} {es : Array MapEntry} {clock : Nat} {key : Value} {z : Value}

/-- where a key is, whatever the world -/
theorem find_cases (MK : MapKey P K ok) (hs : MapKept.Stamped es clock) (hes : ∀ x ∈ es.toList, ok x.key) (hk : ok key) :
    (∃ (j : Nat) (e : MapEntry), es.toList[j]? = some e ∧ e.key = key ∧ ∀ w : World, (Instr.findKey K key es.toList).run P w = .ok (some (j, e.val)) w) ∨
    ((∀ e ∈ es.toList, e.key ≠ key) ∧ ∀ w : World, (Instr.findKey K key es.toList).run P w = .ok none w) := by
  rcases MK.find default key hk es.toList hes with ⟨_, hne⟩ | ⟨j, e, _, hj, hkey⟩
  · refine .inr ⟨hne, fun w => ?_⟩
    rcases MK.find w key hk es.toList hes with ⟨h, _⟩ | ⟨j, e, _, hj, hkey⟩
    · exact h
    · exact absurd hkey (hne e (List.mem_of_getElem? hj))
  · refine .inl ⟨j, e, hj, hkey, fun w => ?_⟩
    rcases MK.find w key hk es.toList hes with ⟨_, hne⟩ | ⟨j', e', hf, hj', hkey'⟩
    · exact absurd hkey (hne e (List.mem_of_getElem? hj))
    · obtain ⟨rfl, rfl⟩ := key_once hs hj hj' (hkey.trans hkey'.symm)
      exact hf

theorem run_look (MK : MapKey P K ok) (ht : P.underlying T = some (.map K E)) (hk : ok key) {w : World} (hb : w.heap[mb]? = some (.map es clock)) {j : Nat} {v : Value}
    (hf : (Instr.findKey K key es.toList).run P w = .ok (some (j, v)) w) (b : Bool) : (Instr.lookup T (.map (some mb)) key b).run P w = .ok (if b then .tuple #[v, .bool true] else v) w := by
  have hc := MK.check w es.isEmpty key hk
  cases b <;> simp [Instr.lookup, run_underlying ht, MapKept.run_getObj_map hb, hc, hf, Result.andThen]
theorem run_look_no (MK : MapKey P K ok) (ht : P.underlying T = some (.map K E)) (hk : ok key) {w : World} (hz : (zeroValue E).run P w = .ok z w) (hb : w.heap[mb]? = some (.map es clock))
    (hf : (Instr.findKey K key es.toList).run P w = .ok none w) (b : Bool) : (Instr.lookup T (.map (some mb)) key b).run P w = .ok (if b then .tuple #[z, .bool false] else z) w := by
  have hc := MK.check w es.isEmpty key hk
  cases b <;> simp [Instr.lookup, run_underlying ht, MapKept.run_getObj_map hb, hc, hf, hz, Result.andThen]
theorem run_look_nil (MK : MapKey P K ok) (ht : P.underlying T = some (.map K E)) (hk : ok key) {w : World} (hz : (zeroValue E).run P w = .ok z w) (b : Bool)
    (hf : (Instr.findKey K key []).run P w = .ok none w) : (Instr.lookup T (.map none) key b).run P w = .ok (if b then .tuple #[z, .bool false] else z) w := by
  have hc := MK.check w true key hk
  cases b <;> simp [Instr.lookup, run_underlying ht, hc, hf, hz, Result.andThen]

/-- the entries behind a store at a key that is there, at place j; or that is not -/
def esMod (es : Array MapEntry) (j : Nat) (key v : Value) : Array MapEntry := es.modify j fun e => { e with key := key, val := v }
def esPush (es : Array MapEntry) (clock : Nat) (key v : Value) : Array MapEntry := es.push { key := key, val := v, born := clock }

theorem run_put (MK : MapKey P K ok) (ht : P.underlying T = some (.map K E)) (hk : ok key) {w : World} (hb : w.heap[mb]? = some (.map es clock)) {j : Nat} {e : MapEntry} (hj : es.toList[j]? = some e) (he : e.key = key)
    (hf : (Instr.findKey K key es.toList).run P w = .ok (some (j, e.val)) w) (v : Value) : (Instr.mapUpdate T (.map (some mb)) key v).run P w = .ok () (setB w mb (.map (esMod es j key v) clock)) := by
  have hc := MK.check w false key hk
  have hst := MK.stays w key hk
  have hj' : es[j]? = some e := by simpa using hj
  simp [Instr.mapUpdate, run_underlying ht, MapKept.run_getObj_map hb, hc, hf, Result.andThen, hj', he, hst, MapKept.run_setObj_map _ hb, setB, esMod]
theorem run_put_no (MK : MapKey P K ok) (ht : P.underlying T = some (.map K E)) (hk : ok key) {w : World} (hb : w.heap[mb]? = some (.map es clock))
    (hf : (Instr.findKey K key es.toList).run P w = .ok none w) (v : Value) : (Instr.mapUpdate T (.map (some mb)) key v).run P w = .ok () (setB w mb (.map (esPush es clock key v) (clock + 1))) := by
  have hc := MK.check w false key hk
  simp [Instr.mapUpdate, run_underlying ht, MapKept.run_getObj_map hb, hc, hf, Result.andThen, MapKept.run_setObj_map _ hb, setB, esPush]

/-- 'm[k] = append(m[k], ..)': the entry first .. -/
theorem run_entry (MK : MapKey P K ok) (ht : P.underlying T = some (.map K E)) (hk : ok key) {w : World} (hb : w.heap[mb]? = some (.map es clock)) {j : Nat} {e : MapEntry} (hj : es.toList[j]? = some e) (he : e.key = key)
    (hf : (Instr.findKey K key es.toList).run P w = .ok (some (j, e.val)) w) : (Instr.mapEntry T (.map (some mb)) key).run P w = .ok (.tuple #[e.val, .int .i64 e.born]) (setB w mb (.map (esMod es j key e.val) clock)) := by
  have hc := MK.check w false key hk
  have hst := MK.stays w key hk
  have hj' : es[j]? = some e := by simpa using hj
  have hm : es.modify j (fun x => { x with key := key }) = es.modify j (fun x => { x with key := key, val := e.val }) := by
    apply Array.ext_getElem?
    intro i
    simp only [Array.getElem?_modify]
    split
    · rename_i hij
      subst hij
      rw [hj']
      rfl
    · rfl
  simp [Instr.mapEntry, run_underlying ht, MapKept.run_getObj_map hb, hc, hf, Result.andThen, hj', he, hst, MapKept.run_setObj_map _ hb, setB, esMod, goInt, hm]
theorem run_entry_no (MK : MapKey P K ok) (ht : P.underlying T = some (.map K E)) (hk : ok key) {w : World} (hz : (zeroValue E).run P w = .ok z w) (hb : w.heap[mb]? = some (.map es clock))
    (hf : (Instr.findKey K key es.toList).run P w = .ok none w) : (Instr.mapEntry T (.map (some mb)) key).run P w = .ok (.tuple #[z, .int .i64 clock]) (setB w mb (.map (esPush es clock key z) (clock + 1))) := by
  have hc := MK.check w false key hk
  simp [Instr.mapEntry, run_underlying ht, MapKept.run_getObj_map hb, hc, hf, hz, Result.andThen, MapKept.run_setObj_map _ hb, setB, esPush, goInt]
/-- .. then the store into it -/
theorem run_estore {w : World} (hb : w.heap[mb]? = some (.map es clock)) (hs : MapKept.Stamped es clock) {j : Nat} {e : MapEntry} (hj : es.toList[j]? = some e) (v : Value) :
    (Instr.entryStore T (.map (some mb)) (.int .i64 e.born) v).run P w = .ok () (setB w mb (.map (esMod es j e.key v) clock)) := by
  have hi : es.findIdx? (fun x => (x.born : Int) == (e.born : Int)) = some j := by
    rw [WideElems.findIdx_arr]
    exact WideElems.findIdx_born hs.2.1 hj
  have hj' : es[j]? = some e := by simpa using hj
  have hm : es.modify j (fun x => { x with val := v }) = es.modify j (fun x => { x with key := e.key, val := v }) := by
    apply Array.ext_getElem?
    intro i
    simp only [Array.getElem?_modify]
    split
    · rename_i hij
      subst hij
      rw [hj']
      rfl
    · rfl
  simp [Instr.entryStore, MapKept.run_getObj_map hb, asInt, asIntOf, Result.andThen, hi, MapKept.run_setObj_map _ hb, setB, esMod, hm]

theorem stamped_mod (hs : MapKept.Stamped es clock) {j : Nat} {e : MapEntry} (hj : es.toList[j]? = some e) (v : Value) : MapKept.Stamped (esMod es j e.key v) clock :=
  MapKept.stamped_modify hs j _ (fun _ _ => rfl) (fun x _ hx => by
    have hj' : es[j]? = some e := by simpa using hj
    rw [hj'] at hx
    obtain rfl := Option.some.inj hx
    rfl)
theorem stamped_push (hs : MapKept.Stamped es clock) (hk : ∀ x ∈ es.toList, x.key ≠ key) (v : Value) : MapKept.Stamped (esPush es clock key v) (clock + 1) := MapKept.stamped_push hs hk
theorem mem_mod {j : Nat} {v : Value} {x : MapEntry} (hx : x ∈ (esMod es j key v).toList) : x ∈ es.toList ∨ ∃ e, es.toList[j]? = some e ∧ x = { e with key := key, val := v } := by
  obtain ⟨i, hi⟩ := List.mem_iff_getElem?.1 hx
  unfold esMod at hi
  rw [Array.getElem?_toList, Array.getElem?_modify] at hi
  split at hi
  · rename_i hij
    subst hij
    cases he : es[j]? with
    | none => rw [he] at hi; cases hi
    | some e =>
      rw [he] at hi
      exact .inr ⟨e, by simpa using he, (Option.some.inj hi).symm⟩
  · exact .inl (List.mem_iff_getElem?.2 ⟨i, by simpa using hi⟩)
theorem mod_at {j : Nat} {v : Value} {e : MapEntry} (hj : es.toList[j]? = some e) : (esMod es j key v).toList[j]? = some { e with key := key, val := v } := by
  have hj' : es[j]? = some e := by simpa using hj
  unfold esMod
  rw [Array.getElem?_toList, Array.getElem?_modify, if_pos rfl, hj']
  rfl
theorem mod_other {i j : Nat} {v : Value} {e : MapEntry} (hi : es.toList[i]? = some e) (hne : j ≠ i) : (esMod es j key v).toList[i]? = some e := by
  have hi' : es[i]? = some e := by simpa using hi
  unfold esMod
  rw [Array.getElem?_toList, Array.getElem?_modify, if_neg hne, hi']
theorem mem_push {v : Value} {x : MapEntry} : x ∈ (esPush es clock key v).toList ↔ x ∈ es.toList ∨ x = { key := key, val := v, born := clock } := by
  simp [esPush]
end

end Go.Proofs.Ytdfbhlehfbckjaa
