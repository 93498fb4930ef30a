/- Tokens in memory; whether two lists of tokens are one. Each lemma states its own conditions. -/
import Derived.Test.YtegknpffiaeohaaTokA
import Derived.Test.YtegknpffiaeohaaStr
import Derived.Outline
import Derived.Deep.QuietTactic
import Derived.BigQuiet
import Derived.WalkLawsBesides
import Derived.WalkSpells
namespace Go.Proofs.Ytegknpffiaeohaa
open Go.RowKit

def Tok.cells (t : Tok) : List Value := [.int .i64 t.kind, .int .i64 t.at_, .string t.text]
def tokR : Rep Tok where
  size := 3
  R _ cs e := cs = e.cells
  len h := by subst h; rfl
  keep _ h := h
def TokAtC (w : World) (b o : Nat) (e : Tok) : Prop := w.cell? ⟨b, o, none⟩ = some (.int .i64 e.kind) ∧ w.cell? ⟨b, o + 1, none⟩ = some (.int .i64 e.at_) ∧ w.cell? ⟨b, o + 2, none⟩ = some (.string e.text)
theorem tokR.cells {w : World} {b o : Nat} {xs : List Tok} (h : ∀ k x, xs[k]? = some x → tokR.At w b (o + k * tokR.size) x) {k : Nat} {x : Tok} (hk : xs[k]? = some x) : TokAtC w b (o + k * 3) x := by
  obtain ⟨cs, hc, hcs⟩ := h k x hk
  have e : cs = x.cells := hc
  subst e
  exact ⟨hcs 0 _ rfl, hcs 1 _ rfl, hcs 2 _ rfl⟩
theorem TokAtC.keep {w w' : World} (h : Bel w w') {b o : Nat} {e : Tok} : TokAtC w b o e → TokAtC w' b o e := fun ⟨x0, x1, x2⟩ => ⟨h.cell x0, h.cell x1, h.cell x2⟩
theorem flat_cut {α : Type} {f : α → List Value} {n : Nat} (hf : ∀ x, (f x).length = n) : ∀ (xs : List α) (k : Nat) (x : α), xs[k]? = some x → ((xs.flatMap f).drop (k * n)).take n = f x
  | [], k, x, h => by simp at h
  | y :: ys, 0, x, h => by
    obtain rfl : y = x := by simpa using h
    rw [List.flatMap_cons, Nat.zero_mul, List.drop_zero, List.take_append_of_le_length (by rw [hf]; exact Nat.le_refl _), List.take_of_length_le (by rw [hf]; exact Nat.le_refl _)]
  | y :: ys, k + 1, x, h => by
    rw [List.flatMap_cons, List.drop_append, List.drop_of_length_le (by rw [hf, Nat.add_mul]; omega), List.nil_append, hf, show (k + 1) * n - n = k * n by rw [Nat.add_mul]; omega]
    exact flat_cut hf ys k x (by simpa using h)
theorem Sl.own_tok {w : World} {base : Nat} {e : TypeId} {v : Value} {n : Nat} {xs : List Tok} (h : w.ownsRow base e 3 v n (xs.flatMap Tok.cells)) (hn : n = xs.length) : Sl tokR w v xs :=
  Sl.own (r := tokR) h hn fun k x hx => flat_cut (n := 3) (fun _ => rfl) xs k x hx

theorem take_map_succ {α β : Type} {xs : List α} {ys : List α} {f : α → β} {k : Nat} {x y : α} (hx : xs[k]? = some x) (hy : ys[k]? = some y) (h : (xs.take k).map f = (ys.take k).map f) (e : f x = f y) : (xs.take (k + 1)).map f = (ys.take (k + 1)).map f := by
  rw [List.take_add_one, List.take_add_one, List.map_append, List.map_append, h, hx, hy]
  simp [e]
theorem map_ne_of_get {α β : Type} {xs ys : List α} {f : α → β} {k : Nat} {x y : α} (hx : xs[k]? = some x) (hy : ys[k]? = some y) (e : f x ≠ f y) : xs.map f ≠ ys.map f := by
  intro h
  have h1 : (xs.map f)[k]? = (ys.map f)[k]? := by rw [h]
  rw [List.getElem?_map, List.getElem?_map, hx, hy] at h1
  exact e (by simpa using h1)

/-- what is looked at -/
def tokKey (at_ : Bool) (t : Tok) : Int × ByteArray × Int := (t.kind, t.text, if at_ then t.at_ else 0)
def sameToks (at_ : Bool) (xs ys : List Tok) : Bool := decide (xs.map (tokKey at_) = ys.map (tokKey at_))

theorem sameToks_any (v u : Value) (xs ys : List Tok) (at_ : Bool) (w : World) (hx : Sl tokR w v xs) (hy : Sl tokR w u ys) (hlx : ok64 xs.length) (_hly : ok64 ys.length) :
    Calls Try.prog 12 #[v, u, .bool at_] w fun r w' => r = .returned (.bool (sameToks at_ xs ys)) ∧ Bel w w' := by
  obtain ⟨A, c, rfl, hc, hm, hA⟩ := hx
  obtain ⟨B, d, rfl, hd, hn, hB⟩ := hy
  unfold ok64 at hlx
  have HA := Lib.hid hA; clear hA
  have HB := Lib.hid hB; clear hB
  by_cases hl : xs.length = ys.length
  · have hlen : ((xs.length : Int) != (ys.length : Int)) = false := by rw [hl]; simp
    have hle : xs.length ≤ ys.length := by omega
    have hge : ys.length ≤ xs.length := by omega
    have HL := Lib.hid hl; clear hl
    go_enter Try.func12, Try.ntmps12
    go_wp2
    go_loopw [7] (fun i wr => ∃ k : Nat, k ≤ xs.length ∧ i = .int .i64 k ∧ Hid ((xs.take k).map (tokKey at_) = (ys.take k).map (tokKey at_)) ∧ ∃ n, wr = w.drewN n) (fun i _ => xs.length - (intOf i).toNat)
    case atStart => exact ⟨0, by omega, rfl, rfl, 0, rfl⟩
    case round =>
      obtain ⟨k, hk, rfl, ht, n, rfl⟩ := hrel
      by_cases hlt : k < xs.length
      · have hlt' : k < ys.length := by omega
        obtain ⟨e, he⟩ : ∃ e, xs[k]? = some e := ⟨_, List.getElem?_eq_getElem hlt⟩
        obtain ⟨f, hf⟩ : ∃ e, ys[k]? = some e := ⟨_, List.getElem?_eq_getElem hlt'⟩
        obtain ⟨ab, ao, rfl, hA⟩ := HA.out (by omega)
        obtain ⟨bb, bo, rfl, hB⟩ := HB.out (by omega)
        obtain ⟨x0, x1, x2⟩ := tokR.cells hA he
        obtain ⟨y0, y1, y2⟩ := tokR.cells hB hf
        clear hA hB HA HB
        have HE := Lib.hid he; clear he
        have HF := Lib.hid hf; clear hf
        by_cases h0 : e.kind = f.kind
        · have d0 : (e.kind != f.kind) = false := by simpa using h0
          by_cases h1 : e.text = f.text
          · have d1 := str_true h1
            have H0 := Lib.hid h0; have H1 := Lib.hid h1; clear h0 h1
            cases at_ with
            | false =>
              go_wp2
              go_quiet (fail)
              go_wp2
              go_roundw
              case rel => exact ⟨k + 1, by omega, by go_num, take_map_succ HE.out HF.out ht.out (by unfold tokKey; rw [H0.out, H1.out]; rfl), _, rfl⟩
              case measure => simp [intOf]; omega
            | true =>
              by_cases h2 : e.at_ = f.at_
              · have d2 : (e.at_ != f.at_) = false := by simpa using h2
                have H2 := Lib.hid h2; clear h2
                go_wp2
                go_quiet (fail)
                go_wp2
                go_roundw
                case rel => exact ⟨k + 1, by omega, by go_num, take_map_succ HE.out HF.out ht.out (by unfold tokKey; rw [H0.out, H1.out, H2.out]), _, rfl⟩
                case measure => simp [intOf]; omega
              · have d2 : (e.at_ != f.at_) = true := by simpa using h2
                have HN := Lib.hid h2; clear h2
                go_wp2
                go_quiet (fail)
                go_wp2
                go_ret
                refine ⟨ret_bool ?_, by repeat (first | exact Bel.rfl_ _ | apply Bel.drN | apply Bel.al | apply Bel.dr)⟩
                symm
                exact decide_eq_false (map_ne_of_get HE.out HF.out (by unfold tokKey; have := HN.out; simp [this]))
          · have d1 := str_false h1
            have HN := Lib.hid h1; clear h1 h0
            go_wp2
            go_quiet (fail)
            go_wp2
            go_ret
            refine ⟨ret_bool ?_, by repeat (first | exact Bel.rfl_ _ | apply Bel.drN | apply Bel.al | apply Bel.dr)⟩
            symm
            exact decide_eq_false (map_ne_of_get HE.out HF.out (by unfold tokKey; have := HN.out; simp [this]))
        · have d0 : (e.kind != f.kind) = true := by simpa using h0
          have HN := Lib.hid h0; clear h0
          go_wp2
          go_quiet (fail)
          go_wp2
          go_ret
          refine ⟨ret_bool ?_, by repeat (first | exact Bel.rfl_ _ | apply Bel.drN | apply Bel.al | apply Bel.dr)⟩
          symm
          exact decide_eq_false (map_ne_of_get HE.out HF.out (by unfold tokKey; have := HN.out; simp [this]))
      · go_wp2
        go_ret
        refine ⟨ret_bool ?_, by repeat (first | exact Bel.rfl_ _ | apply Bel.drN | apply Bel.al | apply Bel.dr)⟩
        have := ht.out
        rw [List.take_of_length_le (by omega), List.take_of_length_le (by omega)] at this
        unfold sameToks
        rw [this]
        simp
  · have hlen : ((xs.length : Int) != (ys.length : Int)) = true := by simp; omega
    have HL := Lib.hid hl; clear hl
    go_enter Try.func12, Try.ntmps12
    go_wp2
    go_ret
    refine ⟨ret_bool ?_, Bel.rfl_ w⟩
    unfold sameToks
    symm
    rw [decide_eq_false_iff_not]
    intro h
    have := congrArg List.length h
    simp at this
    exact HL.out this

end Go.Proofs.Ytegknpffiaeohaa
