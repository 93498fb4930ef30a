/- The state of the program's parser that builds a struct: its cells, what is built, the result. Each lemma states its own conditions. -/
import Derived.Test.YtmfjlcpjemccmaaGreatDoorSbk38
namespace Go.Proofs.YtmfjlcpjemccmaaGreatDoor
open Go.RowKit
def BlP(w X W:World)(g:Nat)(lv:Value)(E:Nat)(p:Nat)(t:TypeId)(R q:Nat)(zs cs:Array Value):Prop:=
 Ps W g lv p E∧Blk W q t cs∧Blk W R t zs∧w.grownBy W (some g)∧(g<w.heap.size∧w.heap.size≤R∧R<q)∧q+1≤W.heap.size∧Bel (low (q+1) X) (low (q+1) W)
section
variable {w X W W':World}{g:Nat}{lv:Value}{E:Nat}{p:Nat}{t:TypeId}{R q:Nat}{zs cs:Array Value}
theorem BlP.start{W1:World}(h:Ps w g lv p E)(t:TypeId)(zs cs:Array Value)(hb:Bel (w.alloc (.cells zs t)) W1):BlP w (W1.alloc (.cells cs t)) (W1.alloc (.cells cs t)) g lv E p t w.heap.size W1.heap.size zs cs:=by
 have h1:=(((Bel.rfl_ w).al (.cells zs t)).tr hb).al (.cells cs t);have h2:=hb.size;rw[World.size_alloc] at h2;exact⟨h.keep h1,Blk.new _ _ _,(Blk.new w t zs).keep (hb.al _),h1.grown _,⟨h.lt,Nat.le_refl _,h2⟩,by simp,Bel.rfl_ _⟩
theorem BlP.keep(h:BlP w X W g lv E p t R q zs cs)(hb:Bel W W'):BlP w X W' g lv E p t R q zs cs:=by
 obtain⟨h1,h2,h3,h4,h5,h6,h7⟩:=h;exact⟨h1.keep hb,h2.keep hb,h3.keep hb,h4.trans (hb.grown _),h5,Nat.le_trans h6 hb.size,h7.tr (b0S hb)⟩
theorem BlP.grown{p':Nat}(h:BlP w X W g lv E p t R q zs cs)(hg:W.grownBy W' (some g))(hp:Ps W' g lv p' E):BlP w X W' g lv E p' t R q zs cs:=by
 obtain⟨h1,h2,h3,h4,h5,h6,h7⟩:=h;exact⟨hp,h2.grown hg (by simp;omega),h3.grown hg (by simp;omega),h4.trans hg,h5,Nat.le_trans h6 hg.size,h7.tr (b0M hg (by omega))⟩
theorem BlP.fresh(h:BlP w X W g lv E p t R q zs cs):BlP w W W g lv E p t R q zs cs:=by
 obtain⟨h1,h2,h3,h4,h5,h6,h7⟩:=h;exact⟨h1,h2,h3,h4,h5,h6,Bel.rfl_ _⟩
theorem BlP.lt(h:BlP w X W g lv E p t R q zs cs):g<w.heap.size∧w.heap.size≤R∧R<q:=h.2.2.2.2.1
theorem BlP.size(h:BlP w X W g lv E p t R q zs cs):q+1≤W.heap.size:=h.2.2.2.2.2.1
theorem BlP.grew(h:BlP w X W g lv E p t R q zs cs):w.grownBy W (some g):=h.2.2.2.1
theorem BlP.low_(h:BlP w X W g lv E p t R q zs cs):Bel (low (q+1) X) (low (q+1) W):=h.2.2.2.2.2.2
theorem BlP.put(h:BlP w X W g lv E p t R q zs cs)(i:Nat)(u:Value):BlP w X (W.setCell ⟨q,i,none⟩ u) g lv E p t R q zs (cs.setIfInBounds i u):=by
 obtain⟨h1,h2,h3,h4,h5,h6,h7⟩:=h;refine⟨Blk.far_ h1 (by omega) i u,h2.set_ i u,Blk.far_ h3 (by omega) i u,b2L h4 (by omega) i u,h5,?_,h7.tr (b0O W u (by omega))⟩
 simpa using h6
theorem BlP.to{cs':Array Value}(h:BlP w X W g lv E p t R q zs cs)(he:cs=cs'):BlP w X W g lv E p t R q zs cs':=he▸h
theorem BlP.cell(h:BlP w X W g lv E p t R q zs cs)(i:Nat){v:Value}(hv:cs[i]? = some v):W.cell? ⟨q,i,none⟩=some v:=h.2.1.cell hv
theorem BlP.frozen(h:BlP w X W g lv E p t R q zs cs)(i:Nat):W.frozen? ⟨q,i,none⟩=false:=h.2.1.frozen i
theorem BlP.res(h:BlP w X W g lv E p t R q zs cs)(i:Nat)(u:Value):BlP w X (W.setCell ⟨R,i,none⟩ u) g lv E p t R q (zs.setIfInBounds i u) cs:=by
 obtain⟨h1,h2,h3,h4,h5,h6,h7⟩:=h;refine⟨Blk.far_ h1 (by omega) i u,Blk.far_ h2 (by omega) i u,h3.set_ i u,b2L h4 (by omega) i u,h5,?_,h7.tr (b0O W u (by omega))⟩
 simpa using h6
theorem BlP.bel(h:BlP w X W g lv E p t R q zs cs){w0:World}(h0:Bel w0 w)(hg:w0.heap.size≤g):Bel w0 W:=b0U h0 hg h.grew
theorem BlP.row(h:BlP w X W g lv E p t R q zs cs)(us:Array Value):BlP w X (W.setRow R us) g lv E p t R q us cs:=by
 obtain⟨h1,h2,h3,h4,h5,h6,h7⟩:=h;refine⟨(setRow_other W R g us (by omega)).trans h1,(setRow_other W R q us (by omega)).trans h2,setRow_heap W R zs us t (0,0) h3,c0z h4 (by omega) us,h5,by rw[setRow_size];exact h6,h7.tr (b5x rfl rfl rfl (by rw[setRow_size];exact Nat.le_refl _) fun k hk _=>setRow_other W R k us (by omega))⟩
theorem BlP.at_(h:BlP w X W g lv E p t R q zs cs):BlP w X (W.setCell ⟨g,1,none⟩ (.int .i64 ((p:Int)+1))) g lv E (p+1) t R q zs cs:=
 h.grown (b0n W g 1 _) (h.1.at_ (by omega))
theorem BlP.go(h:BlP w X W g lv E p t R q zs cs):W.cell? ⟨g,1,none⟩=some (.int .i64 p)∧W.frozen? ⟨g,1,none⟩=false:=⟨h.1.go.2.1,h.1.go.2.2.2⟩
theorem BlP.new_(h:BlP w X W g lv E p t R q zs cs)(e:TypeId)(us:Array Value):Blk (low (q+1) (W.alloc (.cells us e))) W.heap.size e us:=b3a (Blk.new W e us) h.size
end
end Go.Proofs.YtmfjlcpjemccmaaGreatDoor
