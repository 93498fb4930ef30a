/- Trees of a program's text: what memory reads as. Each lemma states its own conditions. -/
import Derived.Test.YtmfjlcpjemccmaaGreatDoorTts01
namespace Go.Proofs.YtmfjlcpjemccmaaGreatDoor
open Go.RowKit
/-- where the elements of a slice lie -/
def SlF (w : World) (v : Value) (n size : Nat) (f : Nat → List Value) : Prop :=
 ∃ A c, v = .slice A n c ∧ n ≤ c ∧ (c ≤ maxLen ∧ (A = none → c = 0)) ∧ (0 < n → ∃ b o, A = some ⟨b, o, none⟩ ∧ ∀ i, i < n → CellsAt w b (o + i * size) (f i))
theorem SlF.keep {w w' : World} (hb : Bel w w') {v : Value} {n size : Nat} {f : Nat → List Value} (h : SlF w v n size f) : SlF w' v n size f := by
 obtain ⟨A, c, h1, h2, h3, h4⟩ := h
 refine ⟨A, c, h1, h2, h3, fun hp => ?_⟩
 obtain ⟨b, o, hA, hc⟩ := h4 hp
 exact ⟨b, o, hA, fun i hi => (hc i hi).keep hb⟩
theorem SlF.sl {α : Type} {r : Rep α} {w : World} {v : Value} {xs : List α} {f : Nat → List Value} (h : SlF w v xs.length r.size f) (hf : ∀ i x, xs[i]? = some x → r.R w (f i) x) : Sl r w v xs := by
 obtain ⟨A, c, h1, h2, h3, h4⟩ := h
 refine ⟨A, c, h1, h2, h3, fun hp => ?_⟩
 obtain ⟨b, o, hA, hc⟩ := h4 hp
 exact ⟨b, o, hA, fun k x hx => ⟨f k, hf k x hx, hc k (List.getElem?_eq_some_iff.1 hx).1⟩⟩
theorem Sl.frame {α : Type} {r : Rep α} {w : World} {v : Value} {xs : List α} (h : Sl r w v xs) : ∃ f, SlF w v xs.length r.size f ∧ ∀ i x, xs[i]? = some x → r.R w (f i) x := by
 obtain ⟨A, c, h1, h2, h3, h4⟩ := h
 rcases Nat.eq_zero_or_pos xs.length with h0 | h0
 ·exact ⟨fun _ => [], ⟨A, c, h1, h2, h3, fun hp => by omega⟩, fun i x hx => by have := (List.getElem?_eq_some_iff.1 hx).1; omega⟩
 ·obtain ⟨b, o, hA, hc⟩ := h4 h0
  have hx : ∀ i, ∃ cs, ∀ x, xs[i]? = some x → r.R w cs x ∧ CellsAt w b (o + i * r.size) cs := fun i => by
   cases hx : xs[i]? with
   | none => exact ⟨[], fun _ h => by cases h⟩
   | some x =>
    obtain ⟨cs, h5, h6⟩ := hc i x hx
    exact ⟨cs, fun y hy => by obtain rfl := Option.some.inj hy; exact ⟨h5, h6⟩⟩
  refine ⟨fun i => Classical.choose (hx i), ⟨A, c, h1, h2, h3, fun _ => ⟨b, o, hA, fun i hi => ?_⟩⟩, fun i x hi => (Classical.choose_spec (hx i) x hi).1⟩
  exact (Classical.choose_spec (hx i) xs[i] (List.getElem?_eq_getElem hi)).2
/-- expressions -/
inductive TE where
 | mk (kind at_ n : Int) (name : ByteArray) (args : List TE)
namespace TE
def kind : TE → Int | .mk k _ _ _ _ => k
def at_ : TE → Int | .mk _ a _ _ _ => a
def n : TE → Int | .mk _ _ n _ _ => n
def name : TE → ByteArray | .mk _ _ _ s _ => s
def args : TE → List TE | .mk _ _ _ _ l => l
theorem ind {p : TE → Prop} (h : ∀ k a n s args, (∀ x ∈ args, p x) → p (.mk k a n s args)) : ∀ e, p e
 | .mk k a n s args => h k a n s args fun x _hx => ind h x
 termination_by e => SizeOf.sizeOf e
 decreasing_by
  have := List.sizeOf_lt_of_mem _hx
  simp only [TE.mk.sizeOf_spec]
  omega
end TE
/-- commands -/
inductive TC where
 | mk (kind at_ : Int) (name other : ByteArray) (index expr : TE) (args : List TE) (thn els : List TC)
namespace TC
def kind : TC → Int | .mk k _ _ _ _ _ _ _ _ => k
def at_ : TC → Int | .mk _ a _ _ _ _ _ _ _ => a
def name : TC → ByteArray | .mk _ _ s _ _ _ _ _ _ => s
def other : TC → ByteArray | .mk _ _ _ s _ _ _ _ _ => s
def index : TC → TE | .mk _ _ _ _ e _ _ _ _ => e
def expr : TC → TE | .mk _ _ _ _ _ e _ _ _ => e
def args : TC → List TE | .mk _ _ _ _ _ _ l _ _ => l
def thn : TC → List TC | .mk _ _ _ _ _ _ _ l _ => l
def els : TC → List TC | .mk _ _ _ _ _ _ _ _ l => l
theorem ind {p : TC → Prop} (h : ∀ k a s t i e args thn els, (∀ x ∈ thn, p x) → (∀ x ∈ els, p x) → p (.mk k a s t i e args thn els)) : ∀ x, p x
 | .mk k a s t i e args thn els => h k a s t i e args thn els (fun x _hx => ind h x) (fun x _hx => ind h x)
 termination_by e => SizeOf.sizeOf e
 decreasing_by
  all_goals
   have := List.sizeOf_lt_of_mem _hx
   simp only [TC.mk.sizeOf_spec]
   omega
end TC
structure TV where
 name : ByteArray
 size : Int
deriving DecidableEq
structure TF where
 at_ : Int
 name : ByteArray
 params : List ByteArray
 vars : List TV
 cmds : List TC
 result : TE
/-- five cells read as an expression -/
inductive TER (w : World) : TE → List Value → Prop
 | mk (k a n : Int) (s : ByteArray) (args : List TE) (v : Value) (f : Nat → List Value) (hs : s.size ≤ maxLen) (hv : SlF w v args.length 5 f) (hf : ∀ i x, args[i]? = some x → TER w x (f i)) :
   TER w (.mk k a n s args) [.int .i64 k, .int .i64 a, .int .i64 n, .string s, v]
theorem TER.keep {w w' : World} (hb : Bel w w') {e : TE} {cs : List Value} (h : TER w e cs) : TER w' e cs := by
 induction h with
 | mk k a n s args v f hs hv hf ih => exact .mk k a n s args v f hs (hv.keep hb) ih
def teR : Rep TE where
 size := 5
 R w cs e := TER w e cs
 len h := by cases h; rfl
 keep hb h := h.keep hb
theorem TER.opened {w : World} {k a n : Int} {s : ByteArray} {args : List TE} {cs : List Value} (h : TER w (.mk k a n s args) cs) : ∃ v, cs = [.int .i64 k, .int .i64 a, .int .i64 n, .string s, v] ∧ s.size ≤ maxLen ∧ Sl teR w v args := by
 cases h with
 | mk _ _ _ _ _ v f hs hv hf => exact ⟨v, rfl, hs, hv.sl (r := teR) hf⟩
theorem TER.shut {w : World} {k a n : Int} {s : ByteArray} {args : List TE} {v : Value} (hs : s.size ≤ maxLen) (h : Sl teR w v args) : TER w (.mk k a n s args) [.int .i64 k, .int .i64 a, .int .i64 n, .string s, v] := by
 obtain ⟨f, h1, h2⟩ := h.frame
 exact .mk k a n s args v f hs h1 h2
/-- seventeen cells read as a command -/
inductive TCR (w : World) : TC → List Value → Prop
 | mk (k a : Int) (s t : ByteArray) (i e : TE) (args : List TE) (thn els : List TC) (ci ce : List Value) (va vt ve : Value) (ft fe : Nat → List Value) (hs : s.size ≤ maxLen) (ht : t.size ≤ maxLen) (hi : TER w i ci) (he : TER w e ce) (ha : Sl teR w va args)
   (hvt : SlF w vt thn.length 17 ft) (hft : ∀ i x, thn[i]? = some x → TCR w x (ft i)) (hve : SlF w ve els.length 17 fe) (hfe : ∀ i x, els[i]? = some x → TCR w x (fe i)) :
   TCR w (.mk k a s t i e args thn els) ([.int .i64 k, .int .i64 a, .string s, .string t] ++ ci ++ ce ++ [va, vt, ve])
theorem TCR.keep {w w' : World} (hb : Bel w w') {x : TC} {cs : List Value} (h : TCR w x cs) : TCR w' x cs := by
 induction h with
 | mk k a s t i e args thn els ci ce va vt ve ft fe hs ht hi he ha hvt hft hve hfe ih1 ih2 => exact .mk k a s t i e args thn els ci ce va vt ve ft fe hs ht (hi.keep hb) (he.keep hb) (ha.keep hb) (hvt.keep hb) ih1 (hve.keep hb) ih2
def tcR : Rep TC where
 size := 17
 R w cs x := TCR w x cs
 len h := by
  cases h with
  | mk _ _ _ _ _ _ _ _ _ ci ce _ _ _ _ _ _ _ hi he =>
   have h1 : ci.length = 5 := teR.len (w := _) (x := _) hi
   have h2 : ce.length = 5 := teR.len (w := _) (x := _) he
   simp [h1, h2]
 keep hb h := h.keep hb
theorem TCR.opened {w : World} {k a : Int} {s t : ByteArray} {i e : TE} {args : List TE} {thn els : List TC} {cs : List Value} (h : TCR w (.mk k a s t i e args thn els) cs) : ∃ vi ve va vt vs,
  cs = [.int .i64 k, .int .i64 a, .string s, .string t, .int .i64 i.kind, .int .i64 i.at_, .int .i64 i.n, .string i.name, vi, .int .i64 e.kind, .int .i64 e.at_, .int .i64 e.n, .string e.name, ve, va, vt, vs] ∧
  s.size ≤ maxLen ∧ t.size ≤ maxLen ∧ i.name.size ≤ maxLen ∧ e.name.size ≤ maxLen ∧ Sl teR w vi i.args ∧ Sl teR w ve e.args ∧ Sl teR w va args ∧ Sl tcR w vt thn ∧ Sl tcR w vs els := by
 cases h with
 | mk _ _ _ _ _ _ _ _ _ ci ce va vt vs ft fe hs ht hi he ha hvt hft hve hfe =>
  obtain ⟨ik, ia, iN, is_, iargs⟩ := i
  obtain ⟨ek, ea, eN, es, eargs⟩ := e
  obtain ⟨vi, rfl, h1, h2⟩ := hi.opened
  obtain ⟨ve, rfl, h3, h4⟩ := he.opened
  exact ⟨vi, ve, va, vt, vs, rfl, hs, ht, h1, h3, h2, h4, ha, hvt.sl (r := tcR) hft, hve.sl (r := tcR) hfe⟩
theorem TCR.shut {w : World} {k a : Int} {s t : ByteArray} {i e : TE} {args : List TE} {thn els : List TC} {vi ve va vt vs : Value} (hs : s.size ≤ maxLen) (ht : t.size ≤ maxLen) (hin : i.name.size ≤ maxLen) (hen : e.name.size ≤ maxLen)
  (hi : Sl teR w vi i.args) (he : Sl teR w ve e.args) (ha : Sl teR w va args) (hT : Sl tcR w vt thn) (hE : Sl tcR w vs els) :
  TCR w (.mk k a s t i e args thn els) [.int .i64 k, .int .i64 a, .string s, .string t, .int .i64 i.kind, .int .i64 i.at_, .int .i64 i.n, .string i.name, vi, .int .i64 e.kind, .int .i64 e.at_, .int .i64 e.n, .string e.name, ve, va, vt, vs] := by
 obtain ⟨ft, h1, h2⟩ := hT.frame
 obtain ⟨fe, h3, h4⟩ := hE.frame
 obtain ⟨ik, ia, iN, is_, iargs⟩ := i
 obtain ⟨ek, ea, eN, es, eargs⟩ := e
 exact .mk k a s t _ _ args thn els [.int .i64 ik, .int .i64 ia, .int .i64 iN, .string is_, vi] [.int .i64 ek, .int .i64 ea, .int .i64 eN, .string es, ve] va vt vs ft fe hs ht (.shut hin hi) (.shut hen he) ha h1 h2 h3 h4
/-- variables, functions -/
def tvR : Rep TV where
 size := 2
 R _ cs x := cs = [.string x.name, .int .i64 x.size] ∧ x.name.size ≤ maxLen
 len h := by obtain ⟨rfl, _⟩ := h; rfl
 keep _ h := h
/-- texts that are no longer than there may be -/
def nmR : Rep ByteArray where
 size := 1
 R _ cs x := cs = [.string x] ∧ x.size ≤ maxLen
 len h := by obtain ⟨rfl, _⟩ := h; rfl
 keep _ h := h
def TFR (w : World) (x : TF) (cs : List Value) : Prop := ∃ vp vv vc vr, cs = [.int .i64 x.at_, .string x.name, vp, vv, vc, .int .i64 x.result.kind, .int .i64 x.result.at_, .int .i64 x.result.n, .string x.result.name, vr] ∧ x.name.size ≤ maxLen ∧ x.result.name.size ≤ maxLen ∧
 Sl nmR w vp x.params ∧ Sl tvR w vv x.vars ∧ Sl tcR w vc x.cmds ∧ Sl teR w vr x.result.args
def tfR : Rep TF where
 size := 10
 R w cs x := TFR w x cs
 len h := by obtain ⟨_, _, _, _, rfl, _⟩ := h; rfl
 keep hb h := by
  obtain ⟨vp, vv, vc, vr, h1, h2, h3, h4, h5, h6, h7⟩ := h
  exact ⟨vp, vv, vc, vr, h1, h2, h3, h4.keep hb, h5.keep hb, h6.keep hb, h7.keep hb⟩
/-- an expression, a command, a function as an argument -/
def TEV (w : World) (e : TE) (val : Value) : Prop := ∃ v, val = .agg #[.int .i64 e.kind, .int .i64 e.at_, .int .i64 e.n, .string e.name, v] ∧ e.name.size ≤ maxLen ∧ Sl teR w v e.args
theorem TEV.keep {w w' : World} (hb : Bel w w') {e : TE} {val : Value} (h : TEV w e val) : TEV w' e val := by
 obtain ⟨v, h1, h2, h3⟩ := h
 exact ⟨v, h1, h2, h3.keep hb⟩
/-- the cells of an element -/
theorem teR.cells {w : World} {b o : Nat} {xs : List TE} (h : ∀ k x, xs[k]? = some x → teR.At w b (o + k * teR.size) x) {k : Nat} {x : TE} (hk : xs[k]? = some x) :
  ∃ A m c, Sl teR w (.slice A m c) x.args ∧ x.name.size ≤ maxLen ∧ w.cell? ⟨b, o + k * 5, none⟩ = some (.int .i64 x.kind) ∧ w.cell? ⟨b, o + k * 5 + 1, none⟩ = some (.int .i64 x.at_) ∧ w.cell? ⟨b, o + k * 5 + 2, none⟩ = some (.int .i64 x.n) ∧
  w.cell? ⟨b, o + k * 5 + 3, none⟩ = some (.string x.name) ∧ w.cell? ⟨b, o + k * 5 + 4, none⟩ = some (.slice A m c) := by
 obtain ⟨cs, hc, hcs⟩ := h k x hk
 obtain ⟨k', a', n', s', args⟩ := x
 obtain ⟨v, rfl, h1, hs⟩ := TER.opened hc
 have hs' := hs
 obtain ⟨A, c, rfl, _⟩ := hs
 exact ⟨A, _, c, hs', h1, hcs 0 _ rfl, hcs 1 _ rfl, hcs 2 _ rfl, hcs 3 _ rfl, hcs 4 _ rfl⟩
end Go.Proofs.YtmfjlcpjemccmaaGreatDoor
