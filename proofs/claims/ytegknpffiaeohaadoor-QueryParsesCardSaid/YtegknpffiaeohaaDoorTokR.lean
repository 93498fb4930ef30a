/- Tokens in memory; whether two lists of tokens are one. Each lemma states its own conditions. -/
import Derived.Test.YtegknpffiaeohaaDoorTokA
import Derived.Test.YtegknpffiaeohaaDoorStr
import Derived.Outline
import Derived.Deep.QuietTactic
import Derived.BigQuiet
import Derived.WalkLawsBesides
import Derived.WalkSpells
namespace Go.Proofs.YtegknpffiaeohaaDoor
open Go.RowKit

def Tok.cells (t : Tok) : List Value := [.int .i64 t.kind, .int .i64 t.at_, .string t.text]
def tokR : Rep Tok where
  size := 3
  R _ cs e := cs = e.cells
  len h := by subst h; rfl
  keep _ h := h
def TokAtC (w : World) (b o : Nat) (e : Tok) : Prop := w.cell? ⟨b, o, none⟩ = some (.int .i64 e.kind) ∧ w.cell? ⟨b, o + 1, none⟩ = some (.int .i64 e.at_) ∧ w.cell? ⟨b, o + 2, none⟩ = some (.string e.text)
theorem tokR.cells {w : World} {b o : Nat} {xs : List Tok} (h : ∀ k x, xs[k]? = some x → tokR.At w b (o + k * tokR.size) x) {k : Nat} {x : Tok} (hk : xs[k]? = some x) : TokAtC w b (o + k * 3) x := by
  obtain ⟨cs, hc, hcs⟩ := h k x hk
  have e : cs = x.cells := hc
  subst e
  exact ⟨hcs 0 _ rfl, hcs 1 _ rfl, hcs 2 _ rfl⟩
theorem TokAtC.keep {w w' : World} (h : Bel w w') {b o : Nat} {e : Tok} : TokAtC w b o e → TokAtC w' b o e := fun ⟨x0, x1, x2⟩ => ⟨h.cell x0, h.cell x1, h.cell x2⟩
theorem flat_cut {α : Type} {f : α → List Value} {n : Nat} (hf : ∀ x, (f x).length = n) : ∀ (xs : List α) (k : Nat) (x : α), xs[k]? = some x → ((xs.flatMap f).drop (k * n)).take n = f x
  | [], k, x, h => by simp at h
  | y :: ys, 0, x, h => by
    obtain rfl : y = x := by simpa using h
    rw [List.flatMap_cons, Nat.zero_mul, List.drop_zero, List.take_append_of_le_length (by rw [hf]; exact Nat.le_refl _), List.take_of_length_le (by rw [hf]; exact Nat.le_refl _)]
  | y :: ys, k + 1, x, h => by
    rw [List.flatMap_cons, List.drop_append, List.drop_of_length_le (by rw [hf, Nat.add_mul]; omega), List.nil_append, hf, show (k + 1) * n - n = k * n by rw [Nat.add_mul]; omega]
    exact flat_cut hf ys k x (by simpa using h)
theorem Sl.own_tok {w : World} {base : Nat} {e : TypeId} {v : Value} {n : Nat} {xs : List Tok} (h : w.ownsRow base e 3 v n (xs.flatMap Tok.cells)) (hn : n = xs.length) : Sl tokR w v xs :=
  Sl.own (r := tokR) h hn fun k x hx => flat_cut (n := 3) (fun _ => rfl) xs k x hx

theorem take_map_succ {α β : Type} {xs : List α} {ys : List α} {f : α → β} {k : Nat} {x y : α} (hx : xs[k]? = some x) (hy : ys[k]? = some y) (h : (xs.take k).map f = (ys.take k).map f) (e : f x = f y) : (xs.take (k + 1)).map f = (ys.take (k + 1)).map f := by
  rw [List.take_add_one, List.take_add_one, List.map_append, List.map_append, h, hx, hy]
  simp [e]
theorem map_ne_of_get {α β : Type} {xs ys : List α} {f : α → β} {k : Nat} {x y : α} (hx : xs[k]? = some x) (hy : ys[k]? = some y) (e : f x ≠ f y) : xs.map f ≠ ys.map f := by
  intro h
  have h1 : (xs.map f)[k]? = (ys.map f)[k]? := by rw [h]
  rw [List.getElem?_map, List.getElem?_map, hx, hy] at h1
  exact e (by simpa using h1)

/-- what is looked at -/
def tokKey (at_ : Bool) (t : Tok) : Int × ByteArray × Int := (t.kind, t.text, if at_ then t.at_ else 0)
def sameToks (at_ : Bool) (xs ys : List Tok) : Bool := decide (xs.map (tokKey at_) = ys.map (tokKey at_))

end Go.Proofs.YtegknpffiaeohaaDoor
