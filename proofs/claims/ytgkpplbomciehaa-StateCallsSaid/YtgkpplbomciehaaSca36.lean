/- The memory of events replayed. Right, and the value of an expression: walked. Each lemma states its own conditions. -/
import Derived.Test.YtgkpplbomciehaaSca35
import Derived.Test.YtgkpplbomciehaaSca34
import Derived.OwnWalk
namespace Go.Proofs.Ytgkpplbomciehaa
open Go.RowKit
abbrev RPT : TypeId := 132
abbrev SFT : TypeId := 87
/-- a frame, where its variables lie -/
structure Fx where
  f : Fm
  vv : Value
  gs : List Nat
def Fx.cells (x : Fx) : List Value := [.int .i64 x.f.num, .int .i64 x.f.fn, x.vv]
def fxC (xs : List Fx) : List Value := xs.flatMap Fx.cells
theorem fxC_app (a b : List Fx) : fxC (a ++ b) = fxC a ++ fxC b := by unfold fxC; rw [List.flatMap_append]
theorem fxC_len (xs : List Fx) : (fxC xs).length = xs.length * 3 := by
  induction xs with
  | nil => rfl
  | cons x xs ih => unfold fxC at *; rw [List.flatMap_cons, List.length_append, ih, List.length_cons]; simp [Fx.cells]; omega
/-- blocks of other types, that stay -/
structure Gst where
  P : Nat → TypeId → Array Value → Prop
  ok : ∀ {k t cs}, P k t cs → t ≠ RPT ∧ t ≠ SFT ∧ t ≠ INT ∧ t ≠ INTS
def noG : Gst := ⟨fun _ _ _ => False, fun h => h.elim⟩
structure RepD (G : Gst) (w0 : World) (ps : List PF) (r : Nat) (w : World) (s : Rp) (vp vfr vfn : Value) (xs : List Fx) : Prop where
  bel : Below w0.heap.size w0 w
  lo : w0.heap.size ≤ r
  blk : Blk w r RPT #[vp, vfr, vfn]
  prog : Sl pfR w0 vp ps
  frs : s.frs = xs.map Fx.f
  fns : w.ownsRow w0.heap.size INT 1 vfn s.fns.length (s.fns.map (Value.int .i64))
  row : w.ownsRow w0.heap.size SFT 3 vfr xs.length (fxC xs)
  vars : ∀ x ∈ xs, VarsG w w0.heap.size x.vv x.f.vars x.gs
  nd : (xs.flatMap Fx.gs).Nodup
  far : ∀ x ∈ xs, ∀ g ∈ x.gs, vfn.ownBlock ≠ some g
  gst : ∀ {k t cs}, G.P k t cs → Blk w k t cs
def RepM (G : Gst) (w0 : World) (ps : List PF) (r : Nat) (w : World) (s : Rp) : Prop := ∃ vp vfr vfn xs, RepD G w0 ps r w s vp vfr vfn xs
theorem VarsG.to2 {w w' : World} {lo : Nat} {v : Value} {vs : List (List Int)} {gs : List Nat} (h : VarsG w lo v vs gs) (hr : w'.ownsRow lo INTS 1 v vs.length (heads gs vs)) (hb : ∀ (i g : Nat) (l : List Int), gs[i]? = some g → vs[i]? = some l → Blk w g INT (intCells l) → Blk w' g INT (intCells l)) : VarsG w' lo v vs gs :=
  ⟨hr, h.len, h.nd, fun i g l hg hl => ⟨(h.blk i g l hg hl).1, (h.blk i g l hg hl).2.1, hb i g l hg hl (h.blk i g l hg hl).2.2⟩⟩
theorem VarsG.keep {w w' : World} {lo : Nat} {v : Value} {vs : List (List Int)} {gs : List Nat} (h : VarsG w lo v vs gs) (hb : Bel w w') : VarsG w' lo v vs gs := h.to (hb.own h.row) fun _ _ hg => hg.keep hb
theorem VarsG.lt {w : World} {lo : Nat} {v : Value} {vs : List (List Int)} {gs : List Nat} (h : VarsG w lo v vs gs) : ∀ g ∈ gs, lo ≤ g ∧ g < w.heap.size := fun g hg => by
  obtain ⟨i, hi⟩ := List.getElem?_of_mem hg
  have hlt : i < vs.length := by rw [← h.len]; exact (List.getElem?_eq_some_iff.1 hi).1
  obtain ⟨h1, -, h3⟩ := h.blk i g _ hi (List.getElem?_eq_getElem hlt)
  exact ⟨h1, h3.lt⟩
theorem VarsG.base {w : World} {lo lo' : Nat} {v : Value} {vs : List (List Int)} {gs : List Nat} (h : VarsG w lo v vs gs) (hl : lo' ≤ lo) : VarsG w lo' v vs gs := by
  have ho := h.row
  refine ⟨⟨ho.1, ?_⟩, h.len, h.nd, fun i g l hg hx => ⟨by have := (h.blk i g l hg hx).1; omega, (h.blk i g l hg hx).2⟩⟩
  rcases ho.2 with hn | ⟨g, cap, cur, rfl, hbg, rest⟩
  · exact .inl hn
  · exact .inr ⟨g, cap, cur, rfl, by omega, rest⟩
section
variable {G : Gst} {w0 w W : World} {ps : List PF} {r : Nat} {s : Rp} {vp vfr vfn : Value} {xs : List Fx}
theorem RepD.keep (h : RepD G w0 ps r w s vp vfr vfn xs) (hW : Bel w W) : RepD G w0 ps r W s vp vfr vfn xs :=
  ⟨Bel.trB h.bel hW h.bel.size, h.lo, h.blk.keep hW, h.prog, h.frs, hW.own h.fns, hW.own h.row, fun x hx => (h.vars x hx).keep hW, h.nd, h.far, fun hk => (h.gst hk).keep hW⟩
theorem RepM.keep (h : RepM G w0 ps r w s) (hW : Bel w W) : RepM G w0 ps r W s := by
  obtain ⟨vp, vfr, vfn, xs, h⟩ := h
  exact ⟨vp, vfr, vfn, xs, h.keep hW⟩
theorem RepD.len (h : RepD G w0 ps r w s vp vfr vfn xs) : s.frs.length = xs.length := by rw [h.frs, List.length_map]
theorem nodup_snoc {xs : List Fx} {x : Fx} (h : (xs.flatMap Fx.gs).Nodup) (hx : x.gs.Nodup) (hd : ∀ y ∈ xs, ∀ g ∈ y.gs, g ∉ x.gs) : ((xs ++ [x]).flatMap Fx.gs).Nodup := by
  rw [List.flatMap_append]
  refine List.nodup_append.2 ⟨h, by simpa using hx, fun a ha b hb => ?_⟩
  obtain ⟨y, hy, hg⟩ := List.mem_flatMap.1 ha
  rintro rfl
  exact hd y hy a hg (by simpa using hb)
/-- a frame is made: its variables lie there, then the frame is put behind the others -/
theorem RepD.push {w1 W2 : World} {u : Value} {gs : List Nat} {vfr' : Value} (h : RepD G w0 ps r w s vp vfr vfn xs) (h1 : Bel w w1) {num fn : Int} {vs : List (List Int)} (hu : VarsG w1 w.heap.size u vs gs) {w2 : World} (h2 : Bel w1 w2)
    (hg : w2.grownBy W2 vfr.ownBlock) (ho : W2.ownsRow w0.heap.size SFT 3 vfr' (xs.length + 1) (fxC xs ++ [.int .i64 num, .int .i64 fn, u])) :
    RepD G w0 ps r (W2.setCell ⟨r, 1, none⟩ vfr') ⟨s.frs ++ [⟨num, fn, vs⟩], s.fns⟩ vp vfr' vfn (xs ++ [⟨⟨num, fn, vs⟩, u, gs⟩]) := by
  have h02 := h1.tr h2
  have hd := h.keep h02
  have hrow := hd.row
  have hB2 := hd.blk.grown hg (Blk.ne_own hd.blk hrow (by decide))
  have hbel : Below w0.heap.size w0 W2 := Below.grown hd.bel hg hd.bel.size (fun k hk => (hrow.lt k hk).1)
  have hfns := own_far hd.fns hrow (by decide) hg
  have hvar : ∀ {v : Value} {vs : List (List Int)} {gs : List Nat}, VarsG w2 w0.heap.size v vs gs → VarsG (W2.setCell ⟨r, 1, none⟩ vfr') w0.heap.size v vs gs := fun hv => by
    have hv2 := hv.to2 (own_far hv.row hrow (by decide) hg) (fun i g l _ _ hb => hb.grown hg (Blk.ne_own hb hrow (by decide)))
    exact hv2.to2 (own_set hv2.row hB2 (by decide) 1 _) (fun i g l _ _ hb => hb.aside hB2 (by decide) 1 _)
  refine ⟨hbel.setCell (p := ⟨r, 1, none⟩) h.lo _, h.lo, hB2.set_ 1 _, h.prog, by simp only [h.frs, List.map_append, List.map_cons, List.map_nil], own_set hfns hB2 (by decide) 1 _, ?_, fun x hx => ?_, nodup_snoc h.nd hu.nd fun y hy g hgy => ?_, fun x hx g hgx => ?_, fun hk => ((hd.gst hk).grown hg (Blk.ne_own (hd.gst hk) hrow (G.ok hk).2.1.symm)).aside hB2 (G.ok hk).1 1 _⟩
  · rw [fxC_app, List.length_append]
    exact own_set ho hB2 (by decide) 1 _
  · rcases List.mem_append.1 hx with hx | hx
    · exact hvar (hd.vars x hx)
    · obtain rfl := List.mem_singleton.1 hx
      exact hvar ((hu.base h.bel.size).keep h2)
  · have h3 := ((h.vars y hy).lt g hgy).2
    intro hgu
    have := (hu.lt g hgu).1
    omega
  · rcases List.mem_append.1 hx with hx | hx
    · exact h.far x hx g hgx
    · obtain rfl := List.mem_singleton.1 hx
      have h3 := (hu.lt g hgx).1
      intro he
      have := (h.fns.lt g he).2
      omega
/-- .. and its function is noted -/
theorem RepD.note {w1 W2 : World} {vfn' : Value} (h : RepD G w0 ps r w s vp vfr vfn xs) (h1 : Bel w w1) (hg : w1.grownBy W2 vfn.ownBlock) {n : Int} (ho : W2.ownsRow w0.heap.size INT 1 vfn' (s.fns.length + 1) (s.fns.map (Value.int .i64) ++ [.int .i64 n]))
    (hn : ∀ g, vfn'.ownBlock = some g → vfn.ownBlock = some g ∨ w1.heap.size ≤ g) : RepD G w0 ps r (W2.setCell ⟨r, 2, none⟩ vfn') ⟨s.frs, s.fns ++ [n]⟩ vp vfr vfn' xs := by
  have hd := h.keep h1
  have hrow := hd.fns
  have hB2 := hd.blk.grown hg (Blk.ne_own hd.blk hrow (by decide))
  have hbel : Below w0.heap.size w0 W2 := Below.grown hd.bel hg hd.bel.size (fun k hk => (hrow.lt k hk).1)
  have hfr := own_far hd.row hrow (by decide) hg
  refine ⟨hbel.setCell (p := ⟨r, 2, none⟩) h.lo _, h.lo, hB2.set_ 2 _, h.prog, h.frs, ?_, own_set hfr hB2 (by decide) 2 _, fun x hx => ?_, h.nd, fun x hx g hgx he => ?_, fun hk => ((hd.gst hk).grown hg (Blk.ne_own (hd.gst hk) hrow (G.ok hk).2.2.1.symm)).aside hB2 (G.ok hk).1 2 _⟩
  · rw [List.length_append, List.map_append]
    exact own_set ho hB2 (by decide) 2 _
  · have hv := hd.vars x hx
    have hv2 := hv.to2 (own_far hv.row hrow (by decide) hg) (fun i g l hgi _ hb => hb.grown hg (by
      have := h.far x hx g (List.mem_of_getElem? hgi)
      exact fun e => this e.symm))
    exact hv2.to2 (own_set hv2.row hB2 (by decide) 2 _) (fun i g l _ _ hb => hb.aside hB2 (by decide) 2 _)
  · rcases hn g he with h3 | h3
    · exact h.far x hx g hgx h3
    · have := ((hd.vars x hx).lt g hgx).2
      omega
/-- the last frame ends -/
theorem RepD.pop {ys : List Fx} {x : Fx} {g cap : Nat} (h : RepD G w0 ps r w s vp (.slice (some ⟨g, 0, none⟩) xs.length cap) vfn xs) (hx : xs = ys ++ [x]) :
    RepD G w0 ps r (w.setCell ⟨r, 1, none⟩ (.slice (some ⟨g, 0, none⟩) ys.length cap)) ⟨s.frs.dropLast, s.fns⟩ vp (.slice (some ⟨g, 0, none⟩) ys.length cap) vfn ys := by
  subst hx
  have ho := own_cut h.row (k := ys.length) (by simp)
  have hc : (fxC (ys ++ [x])).take (ys.length * 3) = fxC ys := by rw [fxC_app, List.take_left' (fxC_len ys)]
  rw [hc] at ho
  refine ⟨h.bel.setCell (p := ⟨r, 1, none⟩) h.lo _, h.lo, h.blk.set_ 1 _, h.prog, by simp only [h.frs, List.map_append, List.map_cons, List.map_nil, List.dropLast_concat], own_set h.fns h.blk (by decide) 1 _, own_set ho h.blk (by decide) 1 _, fun y hy => ?_, ?_, fun y hy => h.far y (by simp [hy]), fun hk => (h.gst hk).aside h.blk (G.ok hk).1 1 _⟩
  · have hv := h.vars y (by simp [hy])
    exact hv.to2 (own_set hv.row h.blk (by decide) 1 _) (fun i g l _ _ hb => hb.aside h.blk (by decide) 1 _)
  · have := h.nd
    rw [List.flatMap_append] at this
    exact (List.nodup_append.1 this).1
/-- a variable of the last frame is written -/
theorem RepD.write {ys : List Fx} {x : Fx} (h : RepD G w0 ps r w s vp vfr vfn xs) (hx : xs = ys ++ [x]) {v i : Int} {l : List Int} {g : Nat} (hl : x.f.vars[v.toNat]? = some l) (hg : x.gs[v.toNat]? = some g) (n : Int) :
    RepD G w0 ps r (w.setCell ⟨g, i.toNat, none⟩ (.int .i64 n)) ⟨s.frs.dropLast ++ [{ x.f with vars := setC x.f.vars v i n }], s.fns⟩ vp vfr vfn (ys ++ [{ x with f := { x.f with vars := setC x.f.vars v i n } }]) := by
  subst hx
  have hvx := h.vars x (by simp)
  obtain ⟨hlo, -, hG⟩ := hvx.blk v.toNat g l hg hl
  have hgm : g ∈ x.gs := List.mem_of_getElem? hg
  have hset : setC x.f.vars v i n = x.f.vars.set v.toNat (l.set i.toNat n) := by unfold setC; rw [getD_of hl]
  refine ⟨h.bel.setCell (p := ⟨g, i.toNat, none⟩) hlo _, h.lo, h.blk.aside hG (by decide) _ _, h.prog, by simp only [h.frs, List.map_append, List.map_cons, List.map_nil, List.dropLast_concat], own_off h.fns (fun k hk e => h.far x (by simp) g hgm (by rw [hk, e])) _ _, ?_, fun y hy => ?_, ?_, fun y hy => ?_, fun hk => (h.gst hk).aside hG (G.ok hk).2.2.1 _ _⟩
  · have hr := own_set h.row hG (by decide) i.toNat (.int .i64 n)
    have e : fxC (ys ++ [{ x with f := { x.f with vars := setC x.f.vars v i n } }]) = fxC (ys ++ [x]) := by rw [fxC_app, fxC_app]; rfl
    rw [e, List.length_append]
    rw [List.length_append] at hr
    exact hr
  · rcases List.mem_append.1 hy with hy | hy
    · have hv := h.vars y (by simp [hy])
      refine hv.to2 (own_set hv.row hG (by decide) _ _) (fun k g' l' hg' _ hb => (heap_setCell_other w ⟨g, i.toNat, none⟩ g' _ ?_).trans hb)
      dsimp only
      rintro rfl
      have hnd := h.nd
      rw [List.flatMap_append] at hnd
      exact (List.nodup_append.1 hnd).2.2 _ (List.mem_flatMap.2 ⟨y, hy, List.mem_of_getElem? hg'⟩) _ (by simpa using hgm) rfl
    · obtain rfl := List.mem_singleton.1 hy
      show VarsG _ _ x.vv (setC x.f.vars v i n) x.gs
      rw [hset]
      exact hvx.set hl hg n
  · have := h.nd
    simpa [List.flatMap_append] using this
  · rcases List.mem_append.1 hy with hy | hy
    · exact h.far y (by simp [hy])
    · obtain rfl := List.mem_singleton.1 hy
      exact h.far x (by simp)
theorem RepM.guest {G' : Gst} (h : RepM G w0 ps r w s) (hg : ∀ {k t cs}, G'.P k t cs → Blk w k t cs) : RepM G' w0 ps r w s := by
  obtain ⟨vp, vfr, vfn, xs, h⟩ := h
  exact ⟨vp, vfr, vfn, xs, h.bel, h.lo, h.blk, h.prog, h.frs, h.fns, h.row, h.vars, h.nd, h.far, hg⟩
theorem RepM.gst (h : RepM G w0 ps r w s) {k : Nat} {t : TypeId} {cs : Array Value} (hk : G.P k t cs) : Blk w k t cs := by
  obtain ⟨vp, vfr, vfn, xs, h⟩ := h
  exact h.gst hk
end
/-- what is wrong with what Right is told -/
def rightE (ps : List PF) (l : List Ev) : Int := if errP ps ≠ 0 then errP ps else if l.length > 4000 then 2 else 0
def RightIs (ps : List PF) (l : List Ev) (w : World) (r : Ending) (w' : World) : Prop :=
  Bel w w' ∧ ((rightE ps l ≠ 0 ∧ r = .returned (.tuple #[.bool false, .int .i64 (rightE ps l)])) ∨ (rightE ps l = 0 ∧ ∃ b, r = .returned (.tuple #[.bool b, .int .i64 0]) ∧ (b = true ↔ RightP ps l)))
set_option maxRecDepth 20000 in
set_option maxHeartbeats 4000000 in
theorem right_any (ps : List PF) (l : List Ev) (vp vl : Value) (w : World) (h : Sl pfR w vp ps) (hl : Sl evR w vl l) : Calls Try.prog 31 #[.agg #[vp], vl] w (RightIs ps l w) := by
  have HSL := Lib.hid h
  have HEV := Lib.hid hl
  obtain ⟨A, c, rfl, -⟩ := sl_lit h
  obtain ⟨Ae, ce, rfl, hll⟩ := sl_lit hl
  have HB1 : Hid (Bel w (w.alloc (.cells #[.slice A ps.length c] PGT))) := Lib.hid ((Bel.rfl_ w).al _)
  have HP1 := Lib.hid (Blk.new w PGT #[.slice A ps.length c])
  have c0 := HP1.out.cell (i := 0) rfl
  have HCK := Lib.hid (fun W (hb : Bel w W) => check_any ps _ W (HSL.out.keep hb))
  have HIS := Lib.hid (fun W (hb : Bel w W) (h1 : errP ps = 0) (h2 : l.length ≤ 4000) => is_any ps (errP_ok h1) l _ _ W (HSL.out.keep hb) (HEV.out.keep hb) h2)
  have HRE : Hid (rightE ps l = if errP ps ≠ 0 then errP ps else if l.length > 4000 then 2 else 0) := Lib.hid rfl
  unfold RightIs
  clear h hl
  generalize rightE ps l = RE at *
  generalize errP ps = PE at *
  go_enter Try.func31, Try.ntmps31
  go_wp2_with fail
  generalize hW1 : w.alloc (.cells #[.slice A ps.length c] PGT) = W1 at *
  clear hW1
  generalize hQ : w.heap.size = Q at *
  clear hQ
  refine (HCK.out _ HB1.out).mono ?_
  rintro r w2 ⟨rfl, hb2⟩
  have HB2 := Lib.hid (HB1.out.tr hb2)
  have c2 := (HP1.out.keep hb2).cell (i := 0) rfl
  clear hb2 c0
  by_cases h0 : PE = 0
  · subst h0
    have HR : Hid (RE = if l.length > 4000 then 2 else 0) := Lib.hid (by rw [HRE.out, if_neg (by decide)])
    by_cases h4 : l.length > 4000
    · have d4 : decide ((l.length : Int) > 4000) = true := decide_eq_true (by omega)
      have HR2 : Hid (RE = 2) := Lib.hid (by rw [HR.out, if_pos h4])
      clear c2 h4
      go_wp2
      go_ret2
      exact ⟨HB2.out, Or.inl ⟨by rw [HR2.out]; decide, by rw [HR2.out]; rfl⟩⟩
    have d4 : decide ((l.length : Int) > 4000) = false := decide_eq_false (by omega)
    have HR2 : Hid (RE = 0) := Lib.hid (by rw [HR.out, if_neg h4])
    have HI := Lib.hid (HIS.out w2 HB2.out (by first | rfl | trivial) (by omega))
    clear h4
    go_wp2_with fail
    refine HI.out.mono ?_
    rintro r w3 ⟨b, rfl, hbq, hb3⟩
    have HBQ := Lib.hid hbq
    have HB3 := Lib.hid (HB2.out.tr hb3)
    clear hbq hb3 c2
    go_wp2
    go_ret2
    exact ⟨HB3.out, Or.inr ⟨HR2.out, b, rfl, HBQ.out⟩⟩
  · have d1 : (PE != 0) = true := by simpa using h0
    have HR : Hid (RE = PE) := Lib.hid (by rw [HRE.out, if_pos h0])
    have HNE := Lib.hid h0
    clear c2 h0
    go_wp2
    go_ret2
    exact ⟨HB2.out, Or.inl ⟨by rw [HR.out]; exact HNE.out, by rw [HR.out]; rfl⟩⟩
end Go.Proofs.Ytgkpplbomciehaa
