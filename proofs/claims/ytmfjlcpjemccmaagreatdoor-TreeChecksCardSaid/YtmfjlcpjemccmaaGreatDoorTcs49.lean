/- Arguments of a law, opened: a tree. Each lemma states its own conditions. -/
import Derived.Test.YtmfjlcpjemccmaaGreatDoorTcs48
import Derived.Test.YtmfjlcpjemccmaaGreatDoorTcs16
import Derived.Test.YtmfjlcpjemccmaaGreatDoorTcs09
import Derived.Deep.RegionLaw
import Derived.Test.YtmfjlcpjemccmaaGreatDoorTcs39
import Derived.Test.YtmfjlcpjemccmaaGreatDoorTcs17
import Derived.Deep.DeepCutAuto
import Derived.Test.YtmfjlcpjemccmaaGreatDoorTcs40
import Derived.Test.YtmfjlcpjemccmaaGreatDoorRows
namespace Go.Proofs.YtmfjlcpjemccmaaGreatDoor
open Go.ChangeShapes Go.WideShapes Go.ChangeAt Go.RowKit
theorem ownK : ownKnob Tryz.prog.godebug = none := by kernel_rfl
theorem laidOutK : laidOutB Tryz.prog = true := by kernel_rfl
section
variable {H : Type} {enc : TypeId × Value → H} {P : Program} {W : World}
/-- a slice whose elements open with less fuel -/
theorem open_slF {α : Type} {r : Rep α} {t e : TypeId} (ht : P.underlying t = some (.slice e)) (hC : P.cellsOf e = r.size) (h0 : 0 < r.size) {fuel : Nat}
  (hel : ∀ m, m < fuel → ∀ (cs : List Value) (y : DataW H × List MemPlace), cs.length = r.size → DataW.trod enc P W 0 (fun _ => true) true m e cs = some y → ∃ x, r.R W cs x)
  {cs : List Value} {x : DataW H × List MemPlace} (h : DataW.trod enc P W 0 (fun _ => true) true fuel t cs = some x) : ∃ v xs, cs = [v] ∧ Sl r W v xs := by
 rcases DataW.trod_slice ht h with ⟨hc, _⟩ | ⟨a, len, cap, elems, rest, m, hm, hc, _, _, hlc, hcm, hel2, hei, _, _⟩
 ·exact ⟨.slice none 0 0, [], hc, Sl.nil_ _ _⟩
 ·have hx : ∀ i, i < len → ∃ x cs', r.R W cs' x ∧ ∀ j, j < r.size → W.cell? ((a.add (i * r.size)).add j) = cs'[j]? := fun i hi => by
   have h5 := hei i hi
   rw [hC, List.getElem?_eq_getElem (by omega)] at h5
   obtain ⟨cs', hcs, htr⟩ := Option.bind_eq_some_iff.1 h5
   obtain ⟨_, hl, hcell⟩ := World.cells?_some hcs
   obtain ⟨x, hq⟩ := hel m (by omega) cs' _ hl htr
   exact ⟨x, cs', hq, hcell⟩
  refine ⟨.slice (some a) len cap, (List.range len).pmap (fun i hi' => Classical.choose (hx i hi')) (fun i hi' => List.mem_range.1 hi'), hc, ⟨some a, cap, by simp, by simpa using hlc, ⟨hcm, fun h => by cases h⟩, fun hp => ?_⟩⟩
  have hs : a.spot = none := by
   obtain ⟨x, cs', hq, hcell⟩ := hx 0 (by simpa using hp)
   refine cells_lit (w := W) (n := r.size) (cs := cs') (fun i hi' => ?_) (r.len hq) h0
   have := hcell i hi'
   simpa [Addr.add] using this
  obtain ⟨b, o, sp⟩ := a
  simp only at hs
  subst hs
  refine ⟨b, o, rfl, fun k x hk => ?_⟩
  rw [List.getElem?_pmap] at hk
  have hk2 : k < len := by
   rcases Nat.lt_or_ge k len with h | h
   ·exact h
   ·simp [h] at hk
  simp only [List.getElem?_range hk2, Option.pmap_some, Option.some.injEq] at hk
  obtain ⟨cs', hq, hcell⟩ := Classical.choose_spec (hx k hk2)
  rw [hk] at hq
  refine ⟨cs', hq, fun j u hu => ?_⟩
  have hj : j < r.size := by
   have := (List.getElem?_eq_some_iff.1 hu).1
   have h6 := r.len hq
   omega
  have h1 := hcell j hj
  rw [hu] at h1
  have e1 : ((⟨b, o, none⟩ : Addr).add (k * r.size)).add j = ⟨b, o + k * r.size + j, none⟩ := by
   unfold Addr.add
   by_cases hk0 : k * r.size = 0 <;> by_cases hj0 : j = 0 <;> simp [hk0, hj0]
  rw [e1] at h1
  exact h1
/-- the fields of a struct -/
theorem open_struct {fs : Array Field} {t : TypeId} {fuel : Nat} {cs : List Value} {y : DataW H × List MemPlace} (ht : P.underlying t = some (.struct fs)) (h : DataW.trod enc P W 0 (fun _ => true) true fuel t cs = some y) :
  cs.length = P.cellsOf t ∧ ∃ n, n < fuel ∧ ∀ (i : Nat) (f : Field), fs[i]? = some f → ∃ y', DataW.trod enc P W 0 (fun _ => true) true n f.type ((cs.drop f.offset).take (P.cellsOf f.type)) = some y' := by
 obtain ⟨xs, n, rfl, _, hlen, hxl, hg⟩ := DataW.trod_struct ht h
 refine ⟨hlen, n, by omega, fun i f hf => ?_⟩
 have h1 := hg i f hf
 have hi : i < xs.length := by
  rw [hxl]
  exact (Array.getElem?_eq_some_iff.1 hf).1
 rw [List.getElem?_eq_getElem hi] at h1
 exact ⟨_, h1⟩
end
theorem cI : Tryz.prog.cellsOf 3 = 1 := by kernel_rfl
theorem cS : Tryz.prog.cellsOf 9 = 1 := by kernel_rfl
theorem cEs : Tryz.prog.cellsOf 47 = 1 := by kernel_rfl
theorem cCs : Tryz.prog.cellsOf 46 = 1 := by kernel_rfl
theorem cVs : Tryz.prog.cellsOf 45 = 1 := by kernel_rfl
theorem cSs : Tryz.prog.cellsOf 44 = 1 := by kernel_rfl
theorem cFs : Tryz.prog.cellsOf 22 = 1 := by kernel_rfl
theorem cE : Tryz.prog.cellsOf 49 = 5 := by kernel_rfl
theorem cC : Tryz.prog.cellsOf 53 = 17 := by kernel_rfl
theorem cV : Tryz.prog.cellsOf 55 = 2 := by kernel_rfl
theorem cF : Tryz.prog.cellsOf 51 = 10 := by kernel_rfl
theorem cT : Tryz.prog.cellsOf 24 = 1 := by kernel_rfl
section
variable {H : Type} {enc : TypeId × Value → H} {W : World}
set_option maxRecDepth 100000 in
theorem open_te : ∀ (fuel : Nat) (cs : List Value) (y : DataW H × List MemPlace), DataW.trod enc Tryz.prog W 0 (fun _ => true) true fuel 49 cs = some y → ∃ q, TER W q cs := by
 intro fuel
 induction fuel using Nat.strongRecOn with
 | _ fuel ih =>
  intro cs y h
  obtain ⟨hl, n, hn, hg⟩ := open_struct Tryz.underlying49 h
  rw [cE] at hl
  have h0 : ∃ y', DataW.trod enc Tryz.prog W 0 (fun _ => true) true n 3 ((cs.drop 0).take (Tryz.prog.cellsOf 3)) = some y' := hg 0 _ rfl
  rw [cI] at h0
  obtain ⟨y0, h0⟩ := h0
  have h1 : ∃ y', DataW.trod enc Tryz.prog W 0 (fun _ => true) true n 3 ((cs.drop 1).take (Tryz.prog.cellsOf 3)) = some y' := hg 1 _ rfl
  rw [cI] at h1
  obtain ⟨y1, h1⟩ := h1
  have h2 : ∃ y', DataW.trod enc Tryz.prog W 0 (fun _ => true) true n 3 ((cs.drop 2).take (Tryz.prog.cellsOf 3)) = some y' := hg 2 _ rfl
  rw [cI] at h2
  obtain ⟨y2, h2⟩ := h2
  have h3 : ∃ y', DataW.trod enc Tryz.prog W 0 (fun _ => true) true n 9 ((cs.drop 3).take (Tryz.prog.cellsOf 9)) = some y' := hg 3 _ rfl
  rw [cS] at h3
  obtain ⟨y3, h3⟩ := h3
  have h4 : ∃ y', DataW.trod enc Tryz.prog W 0 (fun _ => true) true n 47 ((cs.drop 4).take (Tryz.prog.cellsOf 47)) = some y' := hg 4 _ rfl
  rw [cEs] at h4
  obtain ⟨y4, h4⟩ := h4
  match cs, hl with
  | [c0, c1, c2, c3, c4], _ =>
   obtain ⟨k0, e0, -, -⟩ := DataW.trod_int Tryz.underlying3 h0
   obtain ⟨k1, e1, -, -⟩ := DataW.trod_int Tryz.underlying3 h1
   obtain ⟨k2, e2, -, -⟩ := DataW.trod_int Tryz.underlying3 h2
   obtain ⟨s, e3, -, hs⟩ := DataW.trod_string Tryz.underlying9 h3
   obtain ⟨v, xs, e4, hsl⟩ := open_slF (r := teR) Tryz.underlying47 cE (by decide) (fun m hm cs y _ h => ih m (by omega) cs y h) h4
   have f0 : c0 = .int .i64 k0 := by simpa using e0
   have f1 : c1 = .int .i64 k1 := by simpa using e1
   have f2 : c2 = .int .i64 k2 := by simpa using e2
   have f3 : c3 = .string s := by simpa using e3
   have f4 : c4 = v := by simpa using e4
   subst f0 f1 f2 f3 f4
   exact ⟨.mk k0 k1 k2 s xs, TER.shut hs hsl⟩
set_option maxRecDepth 100000 in
theorem open_tv (fuel : Nat) (cs : List Value) (y : DataW H × List MemPlace) (h : DataW.trod enc Tryz.prog W 0 (fun _ => true) true fuel 55 cs = some y) : ∃ q, tvR.R W cs q := by
 obtain ⟨hl, n, hn, hg⟩ := open_struct Tryz.underlying55 h
 rw [cV] at hl
 have h0 : ∃ y', DataW.trod enc Tryz.prog W 0 (fun _ => true) true n 9 ((cs.drop 0).take (Tryz.prog.cellsOf 9)) = some y' := hg 0 _ rfl
 rw [cS] at h0
 obtain ⟨y0, h0⟩ := h0
 have h1 : ∃ y', DataW.trod enc Tryz.prog W 0 (fun _ => true) true n 3 ((cs.drop 1).take (Tryz.prog.cellsOf 3)) = some y' := hg 1 _ rfl
 rw [cI] at h1
 obtain ⟨y1, h1⟩ := h1
 match cs, hl with
 | [c0, c1], _ =>
  obtain ⟨s, e0, -, hs⟩ := DataW.trod_string Tryz.underlying9 h0
  obtain ⟨k1, e1, -, -⟩ := DataW.trod_int Tryz.underlying3 h1
  have f0 : c0 = .string s := by simpa using e0
  have f1 : c1 = .int .i64 k1 := by simpa using e1
  subst f0 f1
  exact ⟨⟨s, k1⟩, rfl, hs⟩
set_option maxRecDepth 100000 in
theorem open_tc : ∀ (fuel : Nat) (cs : List Value) (y : DataW H × List MemPlace), DataW.trod enc Tryz.prog W 0 (fun _ => true) true fuel 53 cs = some y → ∃ q, TCR W q cs := by
 intro fuel
 induction fuel using Nat.strongRecOn with
 | _ fuel ih =>
  intro cs y h
  obtain ⟨hl, n, hn, hg⟩ := open_struct Tryz.underlying53 h
  rw [cC] at hl
  have h0 : ∃ y', DataW.trod enc Tryz.prog W 0 (fun _ => true) true n 3 ((cs.drop 0).take (Tryz.prog.cellsOf 3)) = some y' := hg 0 _ rfl
  rw [cI] at h0
  obtain ⟨y0, h0⟩ := h0
  have h1 : ∃ y', DataW.trod enc Tryz.prog W 0 (fun _ => true) true n 3 ((cs.drop 1).take (Tryz.prog.cellsOf 3)) = some y' := hg 1 _ rfl
  rw [cI] at h1
  obtain ⟨y1, h1⟩ := h1
  have h2 : ∃ y', DataW.trod enc Tryz.prog W 0 (fun _ => true) true n 9 ((cs.drop 2).take (Tryz.prog.cellsOf 9)) = some y' := hg 2 _ rfl
  rw [cS] at h2
  obtain ⟨y2, h2⟩ := h2
  have h3 : ∃ y', DataW.trod enc Tryz.prog W 0 (fun _ => true) true n 9 ((cs.drop 3).take (Tryz.prog.cellsOf 9)) = some y' := hg 3 _ rfl
  rw [cS] at h3
  obtain ⟨y3, h3⟩ := h3
  have h4 : ∃ y', DataW.trod enc Tryz.prog W 0 (fun _ => true) true n 49 ((cs.drop 4).take (Tryz.prog.cellsOf 49)) = some y' := hg 4 _ rfl
  rw [cE] at h4
  obtain ⟨y4, h4⟩ := h4
  have h5 : ∃ y', DataW.trod enc Tryz.prog W 0 (fun _ => true) true n 49 ((cs.drop 9).take (Tryz.prog.cellsOf 49)) = some y' := hg 5 _ rfl
  rw [cE] at h5
  obtain ⟨y5, h5⟩ := h5
  have h6 : ∃ y', DataW.trod enc Tryz.prog W 0 (fun _ => true) true n 47 ((cs.drop 14).take (Tryz.prog.cellsOf 47)) = some y' := hg 6 _ rfl
  rw [cEs] at h6
  obtain ⟨y6, h6⟩ := h6
  have h7 : ∃ y', DataW.trod enc Tryz.prog W 0 (fun _ => true) true n 46 ((cs.drop 15).take (Tryz.prog.cellsOf 46)) = some y' := hg 7 _ rfl
  rw [cCs] at h7
  obtain ⟨y7, h7⟩ := h7
  have h8 : ∃ y', DataW.trod enc Tryz.prog W 0 (fun _ => true) true n 46 ((cs.drop 16).take (Tryz.prog.cellsOf 46)) = some y' := hg 8 _ rfl
  rw [cCs] at h8
  obtain ⟨y8, h8⟩ := h8
  match cs, hl with
  | [c0, c1, c2, c3, i0, i1, i2, i3, i4, x0, x1, x2, x3, x4, ca, ct, ce], _ =>
   obtain ⟨k0, e0, -, -⟩ := DataW.trod_int Tryz.underlying3 h0
   obtain ⟨k1, e1, -, -⟩ := DataW.trod_int Tryz.underlying3 h1
   obtain ⟨s, e2, -, hs⟩ := DataW.trod_string Tryz.underlying9 h2
   obtain ⟨t, e3, -, ht⟩ := DataW.trod_string Tryz.underlying9 h3
   obtain ⟨i, hi⟩ := open_te n _ _ h4
   obtain ⟨e, he⟩ := open_te n _ _ h5
   obtain ⟨va, args, e6, hsa⟩ := open_slF (r := teR) Tryz.underlying47 cE (by decide) (fun m hm cs y _ h => open_te m cs y h) h6
   obtain ⟨vt, thn, e7, hst⟩ := open_slF (r := tcR) Tryz.underlying46 cC (by decide) (fun m hm cs y _ h => ih m (by omega) cs y h) h7
   obtain ⟨vs, els, e8, hsl⟩ := open_slF (r := tcR) Tryz.underlying46 cC (by decide) (fun m hm cs y _ h => ih m (by omega) cs y h) h8
   have f0 : c0 = .int .i64 k0 := by simpa using e0
   have f1 : c1 = .int .i64 k1 := by simpa using e1
   have f2 : c2 = .string s := by simpa using e2
   have f3 : c3 = .string t := by simpa using e3
   have f6 : ca = va := by simpa using e6
   have f7 : ct = vt := by simpa using e7
   have f8 : ce = vs := by simpa using e8
   subst f0 f1 f2 f3 f6 f7 f8
   obtain ⟨ft, g1, g2⟩ := hst.frame
   obtain ⟨fe, g3, g4⟩ := hsl.frame
   exact ⟨.mk k0 k1 s t i e args thn els, .mk k0 k1 s t i e args thn els [i0, i1, i2, i3, i4] [x0, x1, x2, x3, x4] ca ct ce ft fe hs ht hi he hsa g1 g2 g3 g4⟩
set_option maxRecDepth 100000 in
theorem open_tf (fuel : Nat) (cs : List Value) (y : DataW H × List MemPlace) (h : DataW.trod enc Tryz.prog W 0 (fun _ => true) true fuel 51 cs = some y) : ∃ q, TFR W q cs := by
 obtain ⟨hl, n, hn, hg⟩ := open_struct Tryz.underlying51 h
 rw [cF] at hl
 have h0 : ∃ y', DataW.trod enc Tryz.prog W 0 (fun _ => true) true n 3 ((cs.drop 0).take (Tryz.prog.cellsOf 3)) = some y' := hg 0 _ rfl
 rw [cI] at h0
 obtain ⟨y0, h0⟩ := h0
 have h1 : ∃ y', DataW.trod enc Tryz.prog W 0 (fun _ => true) true n 9 ((cs.drop 1).take (Tryz.prog.cellsOf 9)) = some y' := hg 1 _ rfl
 rw [cS] at h1
 obtain ⟨y1, h1⟩ := h1
 have h2 : ∃ y', DataW.trod enc Tryz.prog W 0 (fun _ => true) true n 44 ((cs.drop 2).take (Tryz.prog.cellsOf 44)) = some y' := hg 2 _ rfl
 rw [cSs] at h2
 obtain ⟨y2, h2⟩ := h2
 have h3 : ∃ y', DataW.trod enc Tryz.prog W 0 (fun _ => true) true n 45 ((cs.drop 3).take (Tryz.prog.cellsOf 45)) = some y' := hg 3 _ rfl
 rw [cVs] at h3
 obtain ⟨y3, h3⟩ := h3
 have h4 : ∃ y', DataW.trod enc Tryz.prog W 0 (fun _ => true) true n 46 ((cs.drop 4).take (Tryz.prog.cellsOf 46)) = some y' := hg 4 _ rfl
 rw [cCs] at h4
 obtain ⟨y4, h4⟩ := h4
 have h5 : ∃ y', DataW.trod enc Tryz.prog W 0 (fun _ => true) true n 49 ((cs.drop 5).take (Tryz.prog.cellsOf 49)) = some y' := hg 5 _ rfl
 rw [cE] at h5
 obtain ⟨y5, h5⟩ := h5
 match cs, hl with
 | [c0, c1, cp, cv, cc, r0, r1, r2, r3, r4], _ =>
  obtain ⟨k0, e0, -, -⟩ := DataW.trod_int Tryz.underlying3 h0
  obtain ⟨s, e1, -, hs⟩ := DataW.trod_string Tryz.underlying9 h1
  obtain ⟨vp, params, e2, hsp⟩ := open_slF (r := nmR) Tryz.underlying44 cS (by decide) (fun m hm cs y _ h => by
   obtain ⟨u, hu, -, hus⟩ := DataW.trod_string Tryz.underlying9 h
   exact ⟨u, hu, hus⟩) h2
  obtain ⟨vv, vars, e3, hsv⟩ := open_slF (r := tvR) Tryz.underlying45 cV (by decide) (fun m hm cs y _ h => open_tv m cs y h) h3
  obtain ⟨vc, cmds, e4, hsc⟩ := open_slF (r := tcR) Tryz.underlying46 cC (by decide) (fun m hm cs y _ h => open_tc m cs y h) h4
  obtain ⟨e, he⟩ := open_te n _ _ h5
  have f0 : c0 = .int .i64 k0 := by simpa using e0
  have f1 : c1 = .string s := by simpa using e1
  have f2 : cp = vp := by simpa using e2
  have f3 : cv = vv := by simpa using e3
  have f4 : cc = vc := by simpa using e4
  subst f0 f1 f2 f3 f4
  obtain ⟨ek, ea, en, es, eargs⟩ := e
  obtain ⟨vr, hr, hrs, hsr⟩ := TER.opened he
  have hr2 : [r0, r1, r2, r3, r4] = [.int .i64 ek, .int .i64 ea, .int .i64 en, .string es, vr] := hr
  injection hr2 with g0 hr2
  injection hr2 with g1 hr2
  injection hr2 with g2 hr2
  injection hr2 with g3 hr2
  injection hr2 with g4 hr2
  subst g0 g1 g2 g3 g4
  exact ⟨⟨k0, s, params, vars, cmds, .mk ek ea en es eargs⟩, cp, cv, cc, r4, rfl, hs, hrs, hsp, hsv, hsc, hsr⟩
set_option maxRecDepth 100000 in
/-- an argument that is a tree -/
theorem open_tree {r : Reach} {base : Nat} {v : Value} {d : DataW H} {p : List MemPlace} (hv : Value.okWide Tryz.prog W r base 24 v)
  (h : DataW.Trod enc Tryz.prog W 0 (fun _ => true) true 24 v d p) : ∃ l u, v = .agg #[u] ∧ Sl tfR W u l := by
 obtain ⟨cs, rfl, _⟩ := okWide_struct Tryz.underlying24 hv
 obtain ⟨fuel, hf⟩ := h
 obtain ⟨hl, n, hn, hg⟩ := open_struct Tryz.underlying24 hf
 rw [cT] at hl
 have h0 : ∃ y', DataW.trod enc Tryz.prog W 0 (fun _ => true) true n 22 (((Value.agg cs).cells.toList.drop 0).take (Tryz.prog.cellsOf 22)) = some y' := hg 0 _ rfl
 rw [cFs] at h0
 obtain ⟨y0, h0⟩ := h0
 obtain ⟨u, l, e0, hsl⟩ := open_slF (r := tfR) Tryz.underlying22 cF (by decide) (fun m hm cs y _ h => open_tf m cs y h) h0
 refine ⟨l, u, ?_, hsl⟩
 have hc : (Value.agg cs).cells.toList = [u] := by
  have h1 : ((Value.agg cs).cells.toList.drop 0).take 1 = [u] := e0
  rw [List.drop_zero, List.take_of_length_le (by rw [hl]; exact Nat.le_refl _)] at h1
  exact h1
 have h2 : (Value.agg cs).cells = #[u] := by rw [← Array.toArray_toList (xs := (Value.agg cs).cells), hc]
 have h3 : cs = #[u] := h2
 rw [h3]
end
end Go.Proofs.YtmfjlcpjemccmaaGreatDoor
