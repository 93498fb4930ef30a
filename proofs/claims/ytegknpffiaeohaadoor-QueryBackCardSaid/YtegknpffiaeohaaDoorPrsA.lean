/- The parser's small steps: walked. Each lemma states its own conditions. -/
import Derived.Test.YtegknpffiaeohaaDoorPrsP
import Derived.Test.YtegknpffiaeohaaDoorPrsM
import Derived.Test.YtegknpffiaeohaaDoorTokE
namespace Go.Proofs.YtegknpffiaeohaaDoor
open Go.RowKit

/-- the parser's cells -/
def Ps (w : World) (g : Nat) (lv : Value) (p E : Nat) : Prop := Blk w g 58 #[lv, .int .i64 p, .int .i64 E]
section
variable {w w' : World} {g : Nat} {lv : Value} {p E : Nat}
theorem Ps.go (h : Ps w g lv p E) : w.cell? ⟨g, 0, none⟩ = some lv ∧ w.cell? ⟨g, 1, none⟩ = some (.int .i64 p) ∧ w.cell? ⟨g, 2, none⟩ = some (.int .i64 E) ∧ w.frozen? ⟨g, 1, none⟩ = false := ⟨h.cell rfl, h.cell rfl, h.cell rfl, h.frozen 1⟩
theorem Ps.keep (h : Ps w g lv p E) (hb : Bel w w') : Ps w' g lv p E := Blk.keep h hb
theorem Ps.at_ (h : Ps w g lv p E) {x : Int} {q : Nat} (hq : x = q) : Ps (w.setCell ⟨g, 1, none⟩ (.int .i64 x)) g lv q E := by
  subst hq
  exact h.set_ 1 (.int .i64 q)
theorem Ps.lt (h : Ps w g lv p E) : g < w.heap.size := Blk.lt h
end
/-- what a parser's failure looks like -/
abbrev failV (x : Int) : Ending := .panicked [{ v := .iface 78 (.int .i64 x), recovered := false }]

set_option maxRecDepth 20000 in
theorem take_yes (l : List Tok) (lv : Value) (p E g : Nat) (s : ByteArray) (w : World) (hl : Sl tokR w lv l) (hn : l.length ≤ 6000) (h : Ps w g lv p E) (ht : tk l p s = true) :
    Calls Tryd.prog 73 #[.pointer (some ⟨g, 0, none⟩), .string s] w fun r w' => r = .returned (.bool true) ∧ Ps w' g lv (p + 1) E ∧ w.grownBy w' (some g) := by
  have hp := tk_lt ht
  obtain ⟨t, hx⟩ : ∃ t, l[p]? = some t := ⟨_, List.getElem?_eq_getElem hp⟩
  rw [tk_some hx] at ht
  have hts := of_decide_eq_true ht
  obtain ⟨A, c, rfl, _, _, hA⟩ := hl
  obtain ⟨b, o, rfl, hcs⟩ := hA (by omega)
  obtain ⟨x0, x1, x2⟩ := tokR.cells hcs hx
  obtain ⟨y0, y1, y2, yf⟩ := h.go
  rw [hts] at x2
  have HP := Lib.hid h
  have d1 : decide (l.length ≤ p) = false := decide_eq_false (by omega)
  clear hcs hx hA h ht hts x0 x1
  go_enter Tryd.func73, Tryd.ntmps73
  go_wp2
  go_quiet (fail)
  go_wp2
  go_ret
  exact ⟨rfl, Ps.at_ (HP.out.keep ((Bel.rfl_ w).drN _)) (by omega), grownS_set (((Bel.rfl_ w).drN _).grown _) 1 _⟩

set_option maxRecDepth 20000 in
theorem take_no (l : List Tok) (lv : Value) (p E g : Nat) (s : ByteArray) (w : World) (hl : Sl tokR w lv l) (hn : l.length ≤ 6000) (h : Ps w g lv p E) (ht : tk l p s = false) :
    Calls Tryd.prog 73 #[.pointer (some ⟨g, 0, none⟩), .string s] w fun r w' => r = .returned (.bool false) ∧ Bel w w' := by
  obtain ⟨y0, y1, y2, yf⟩ := h.go
  obtain ⟨A, c, rfl, _, _, hA⟩ := hl
  by_cases hp : p < l.length
  · obtain ⟨t, hx⟩ : ∃ t, l[p]? = some t := ⟨_, List.getElem?_eq_getElem hp⟩
    rw [tk_some hx] at ht
    have hts := str_false (of_decide_eq_false ht)
    obtain ⟨b, o, rfl, hcs⟩ := hA (by omega)
    obtain ⟨x0, x1, x2⟩ := tokR.cells hcs hx
    have d1 : decide (l.length ≤ p) = false := decide_eq_false (by omega)
    clear hcs hx hA h ht x0 x1
    go_enter Tryd.func73, Tryd.ntmps73
    go_wp2
    go_quiet (fail)
    go_wp2
    go_ret
    exact ⟨rfl, (Bel.rfl_ w).drN _⟩
  · have d1 : decide (l.length ≤ p) = true := decide_eq_true (by omega)
    clear hA h ht
    go_enter Tryd.func73, Tryd.ntmps73
    go_wp2
    go_quiet (fail)
    go_wp2
    go_ret
    exact ⟨rfl, (Bel.rfl_ w).drN _⟩

set_option maxRecDepth 20000 in
theorem fail_any (l : List Tok) (lv : Value) (p E g : Nat) (w : World) (hl : Sl tokR w lv l) (hn : l.length ≤ 6000) (h : Ps w g lv p E) :
    Calls Tryd.prog 47 #[.pointer (some ⟨g, 0, none⟩)] w fun r w' => r = failV (place l E p) ∧ Bel w w' := by
  obtain ⟨y0, y1, y2, yf⟩ := h.go
  obtain ⟨A, c, rfl, _, _, hA⟩ := hl
  by_cases hp : p < l.length
  · obtain ⟨t, hx⟩ : ∃ t, l[p]? = some t := ⟨_, List.getElem?_eq_getElem hp⟩
    have HPL := Lib.hid (place_some (E := E) hx)
    obtain ⟨b, o, rfl, hcs⟩ := hA (by omega)
    obtain ⟨x0, x1, x2⟩ := tokR.cells hcs hx
    have d1 : decide (p < l.length) = true := decide_eq_true (by omega)
    clear hcs hx hA h x0 x2
    go_enter Tryd.func47, Tryd.ntmps47
    go_wp2
    go_quiet (fail)
    go_wp2
    go_quiet (fail)
    go_wp2
    exact ⟨rfl, by rw [HPL.out], (Bel.rfl_ w).drN _⟩
  · have HPL := Lib.hid (place_none (E := E) hp)
    have d1 : decide (p < l.length) = false := decide_eq_false (by omega)
    clear hA h
    go_enter Tryd.func47, Tryd.ntmps47
    go_wp2
    go_quiet (fail)
    go_wp2
    exact ⟨rfl, by rw [HPL.out], (Bel.rfl_ w).drN _⟩

/-- the words in memory -/
def wordsAt (w : World) (G : Nat) : Prop := Blk w G 9 (wordsL.map Value.string).toArray
theorem words_any (w : World) : Calls Tryd.prog 38 #[] w fun r w' => r = .returned (.slice (some ⟨w.heap.size, 0, none⟩) 15 15) ∧ wordsAt w' w.heap.size ∧ Bel w w' := by
  go_enter Tryd.func38, Tryd.ntmps38
  go_wp2
  go_ret
  exact ⟨rfl, Blk.new _ _ _, (Bel.rfl_ w).al _⟩
theorem wordsAt.cell {w : World} {G : Nat} (h : wordsAt w G) {k : Nat} (hk : k < 15) : w.cell? ⟨G, k, none⟩ = some (.string (wordB k)) := by
  refine Blk.cell h ?_
  unfold wordB
  rw [List.getElem?_toArray, List.getElem?_map, List.getD_eq_getElem?_getD]
  have : k < wordsL.length := hk
  rw [List.getElem?_eq_getElem this]
  rfl
end Go.Proofs.YtegknpffiaeohaaDoor
