/- Structs in walks by slots: allocated, stored; three operations that may come up. Each lemma states its own conditions. -/
import Derived.Test.YtgkpplbomciehaaStt25
namespace Go.Proofs.Ytgkpplbomciehaa
open Go.RowKit
section
variable {P:Program}{ops:Array Oper}{Q:Exit→Act→World→Prop}{S:World→Prop}{fuel:Nat}{listed:Array Bool}{N:Nat}{s:List (Nat×Value)}{w:World}
theorem c2D{i j k:Nat}{a:Act}(hr:Region.ready .any ops listed=[i,j,k])(h:b3T P .any ops Q S fuel listed a w i)(h':b3T P .any ops Q S fuel listed a w j)(h'':b3T P .any ops Q S fuel listed a w k):wpAnyH P .any ops Q S (fuel+1) listed a w:=
 wpAnyH_all hr (by simp) fun n hn=>by
  rcases List.mem_cons.1 hn with rfl | hn
  ·exact h
  ·rcases List.mem_cons.1 hn with rfl | hn
   ·exact h'
   ·obtain rfl:n=k:=by simpa using hn
    exact h''
theorem c1u(i j k:Nat)(hr:Region.ready .any ops listed=[i,j,k])(h:RS P ops Q S fuel listed N s w i)(h':RS P ops Q S fuel listed N s w j)(h'':RS P ops Q S fuel listed N s w k):RA P ops Q S (fuel+1) listed N s w:=
 ⟨fun hP hS a ha=>c2D hr (h.out hP hS a ha) (h'.out hP hS a ha) (h''.out hP hS a ha)⟩
theorem b2z(i:Nat)(hr:Region.ready .any ops listed=[i])(h:RS P ops Q S fuel listed N s w i):RA P ops Q S (fuel+1) listed N s w:=
 ⟨fun hP hS a ha=>b2G hr (h.out hP hS a ha)⟩
theorem b3r(d:Nat)(ty:TypeId){i:Nat}{o:Oper}(hi:ops[i]? = some o)(hg:o.guard=none)(ho:o.op=.alloc ty)(hd:b1o N o (some d)=true){t:TypeId}{size bytes:Nat}(El:Elem P t ty size bytes)
  (h:∀z:Array Value,z.size=size→S (w.alloc (.cells z ty))∧RA P ops Q S fuel (listed.setIfInBounds i true) N ((d,.pointer (some ⟨w.heap.size,0,none⟩))::s) (w.alloc (.cells z ty))):RS P ops Q S fuel listed N s w i:=
 ⟨fun hP _ _a ha=>b8z (some d) hi (b1N hd) ty hg ho El fun z hz=>⟨(h z hz).1,(h z hz).2.out hP (h z hz).1 _ (ha.put hd _)⟩⟩
theorem b5l(ty:TypeId)(x y:Operand){i:Nat}{o:Oper}(hi:ops[i]? = some o)(hg:o.guard=none)(ho:o.op=.store ty x y)(hd:b1o N o none=true){t:TypeId}{size bytes:Nat}(El:Elem P t ty size bytes)(g:Nat)(cs:List Value)
  (hkx:knows s x=true) (hx:evl s x=.pointer (some ⟨g,0,none⟩)) (hky:knows s y=true) (hy:evl s y=.agg cs.toArray) {old:Array Value} (hb:Blk w g ty old) (hold:old.size=size) (hl:cs.length=size) (hone:∀u∈cs,u.oneCell'=true) (hS':S (w.setRow g cs.toArray))
  (h:RA P ops Q S fuel (listed.setIfInBounds i true) N s (w.setRow g cs.toArray)):RS P ops Q S fuel listed N s w i:=
 ⟨fun hP _ _a ha=>b9A none hi (b1N hd) ty x y hg ho El g cs (ha.known hkx hx) (ha.known hky hy) hb hold hl hone hS' (h.out hP hS' _ (ha.put hd undef))⟩
theorem b4j(i j d:Nat)(ty:TypeId)(x:Operand){oi oj:Oper}(hi:ops[i]? = some oi)(hj:ops[j]? = some oj)(hg:oi.guard=none∧oj.guard=none)(ho:oi.op=.alloc ty∧oj.op=.store ty (.tmp d) x)(hd:b1o N oi (some d)=true∧b1o N oj none=true)
  (hr:Region.ready .any ops listed=[i]) (hr':Region.ready .any ops (listed.setIfInBounds i true)=[j]) {t:TypeId} {size bytes:Nat} (El:Elem P t ty size bytes) (cs:List Value)
  (hkx:∀v,knows ((d,v)::s) x=true) (hx:∀v,evl ((d,v)::s) x=.agg cs.toArray) (hl:cs.length=size) (hone:∀u∈cs,u.oneCell'=true) (hS:∀z,S (w.alloc (.cells z ty)))
  (h:RA P ops Q S fuel ((listed.setIfInBounds i true).setIfInBounds j true) N ((d,.pointer (some ⟨w.heap.size,0,none⟩))::s) (w.alloc (.cells cs.toArray ty))):RA P ops Q S (fuel+2) listed N s w:=by
 refine b2z i hr (b3r d ty hi hg.1 ho.1 hd.1 El fun z hz=>⟨hS z,b2z j hr' (b5l ty (.tmp d) x hj hg.2 ho.2 hd.2 El w.heap.size cs ?_ ?_ (hkx _) (hx _) (Blk.new w ty z) hz hl hone ?_ ?_)⟩)
 ·unfold knows lk;simp
 ·unfold evl lk;simp
 ·rw[World.setRow_alloc_new];exact hS _
 ·rw[World.setRow_alloc_new];exact h
variable {rest:List Oper}{o1 o2:Oper}
theorem c1H(ty:TypeId)(d1 d2:Nat)(hg:o1.guard=none∧o2.guard=none)(hop:o1.op=.alloc ty∧o2.op=.store ty (.tmp d2) (.tmp d1))(hd:b1o N o1 (some d2)=true∧b1o N o2 none=true)(cs:List Value)
  (hkx:∀v,knows ((d2,v)::s) (.tmp d1)=true) (hx:∀v,evl ((d2,v)::s) (.tmp d1)=.agg cs.toArray) {size bytes:Nat} (inf:∃i z,P.info? ty=some i∧i.zero=some z∧i.size=size∧i.bytes=bytes∧z.cells.size=size) (hl:cs.length=size) (hone:∀u∈cs,u.oneCell'=true)
  (h:WA P ops Q rest N ((d2,.pointer (some ⟨w.heap.size,0,none⟩))::s) (w.alloc (.cells cs.toArray ty))):WA P ops Q (o1::o2::rest) N s w:=by
 obtain⟨i,zv,hi,hz0,hz1,hz2,hz3⟩:=inf;refine⟨fun a ha=>?_⟩;have A2:=ha.put hd.1 (.pointer (some ⟨w.heap.size,0,none⟩));refine Great.wpList_runTo hg.1 o1.dst rfl _ _ (b3s ty hop.1 hi hz0) ?_;rw[b1N hd.1];refine wpList_store_row hg.2 ty (.tmp d2) (.tmp d1) hop.2 w.heap.size cs.toArray (A2.known ?_ ?_) (A2.known (hkx _) (hx _)) ty zv.cells (heap_alloc_last _ _) (by rw[hi,Option.map_some,hz1];simp[hl]) (by simp[hz3,hl]) (all_oneCell_toArray hone) ?_
 ·unfold b3U knows lk;simp
 ·unfold b3U evl lk;simp
 ·rw[World.setRow_alloc_new,b1N hd.2];exact h.out _ (A2.put hd.2 undef)
theorem c3b(ty:TypeId)(d1 d2:Nat)(hg:o1.guard=none∧o2.guard=none)(hop:o1.op=.alloc ty∧o2.op=.store ty (.tmp d2) (.tmp d1))(hd:b1o N o1 (some d2)=true∧b1o N o2 none=true)(cs:List Value)
  (hkx:∀v,knows ((d2,v)::s) (.tmp d1)=true) (hx:∀v,evl ((d2,v)::s) (.tmp d1)=.agg cs.toArray) {t:TypeId} {size bytes:Nat} (E:Elem P t ty size bytes) (hl:cs.length=size) (hone:∀u∈cs,u.oneCell'=true)
  (h:WA P ops Q rest N ((d2,.pointer (some ⟨w.heap.size,0,none⟩))::s) (w.alloc (.cells cs.toArray ty))):WA P ops Q (o1::o2::rest) N s w:=c1H ty d1 d2 hg hop hd cs hkx hx E.inf hl hone h
end
section
variable {w0 w W W':World}{ps:List PF}{fuel:Int}{inp:List Int}{q:Nat}{m:Mc}{vp vin vfr vout:Value}{taken:Nat}{xs:List FrX}
theorem MacD.far(h:MacD w0 ps fuel inp q W m vp vin vfr vout taken xs)(hlow:Below w0.heap.size w0 W')(hk:∀k t cs,(t=MCT∨t=EVT∨t=FRT∨t=b4b∨t=TKT)→Blk W k t cs→Blk W' k t cs)(hi:∀y∈xs,∀g∈y.gs,∀cs,Blk W g INT cs→Blk W' g INT cs):MacD w0 ps fuel inp q W' m vp vin vfr vout taken xs:=by
 refine⟨hlow,h.lo,hk _ _ _ (.inl rfl) h.blk,h.prog,h.ins,h.inp,h.tk,b2K h.out fun k cs _ hB=>hk _ _ _ (.inr (.inl rfl)) hB,b2K h.frs.row fun k cs _ hB=>hk _ _ _ (.inr (.inr (.inl rfl))) hB,h.frs.len,fun i f x hf hx=>?_,h.frs.nd,h.frs.td⟩;have hD:=h.frs.at_ i f x hf hx;refine⟨⟨b2K hD.vars.row fun k cs _ hB=>hk _ _ _ (.inr (.inr (.inr (.inl rfl)))) hB,hD.vars.len,hD.vars.nd,fun j g l hg hl=>?_⟩,hD.tasks.by_ fun cs hB=>hk _ _ _ (.inr (.inr (.inr (.inr rfl)))) hB⟩;obtain⟨a1,a2,a3⟩:=hD.vars.blk j g l hg hl;exact⟨a1,a2,hi x (List.mem_of_getElem? hx) g (List.mem_of_getElem? hg) _ a3⟩
theorem MacD.ints(h:MacD w0 ps fuel inp q W m vp vin vfr vout taken xs){B n:Nat}{u:Value}{cs:List Value}(ho:W.ownsRow B INT 1 u n cs)(hB:∀y∈xs,∀g∈y.gs,g<B)(hg:W.grownBy W' u.ownBlock)(hB0:w0.heap.size≤B):MacD w0 ps fuel inp q W' m vp vin vfr vout taken xs:=by
 refine h.far (Below.grown h.low hg h.low.size fun k hk=>by have:=(ho.lt k hk).1;omega) (fun k t cs ht hb=>hb.grown hg (Blk.ne_own hb ho (by rcases ht with rfl | rfl | rfl | rfl | rfl<;>decide))) fun y hy g hgy cs hb=>hb.grown hg fun he=>?_;have:=(ho.lt g he.symm).1;have:=hB y hy g hgy;omega
theorem Kept.grown_hi{ts:List TypeId}{B lo base n size:Nat}{t:TypeId}{u:Value}{cs:List Value}(ho:W.ownsRow base t size u n cs)(hg:W.grownBy W' u.ownBlock)(hB:B≤lo)(hlo:lo≤base)(hs:lo≤W.heap.size):Kept ts B lo W W':=by
 refine⟨hg.os,hg.tape,hg.output,hg.size,fun k hk=>hg.block k (by omega) fun he=>?_,fun k c t' z hk _ hh=>(hg.block k (by omega) fun he=>?_).trans hh⟩
 ·have:=(ho.lt k he.symm).1;omega
 ·have:=(ho.lt k he.symm).1;omega
theorem MacD.push_frame(h:MacD w0 ps fuel inp q W m vp vin vfr vout taken xs){F:Fr}{X:FrX}{vfr':Value}(hd:FrD w0 W F X)(hg:W.grownBy W' vfr.ownBlock)(ho:W'.ownsRow w0.heap.size FRT 5 vfr' (m.frames.length+1) (frC m.frames xs++b4J F X))
  (hn:X.gs.Nodup) (hgs:∀g∈X.gs,∀y∈xs,g ∉ y.gs) (ht:∀y∈xs,y.tb≠X.tb):MacD w0 ps fuel inp q (W'.setCell ⟨q,6,none⟩ vfr') { m with frames:=F::m.frames } vp vin vfr' vout taken (X::xs):=by
 have hrow:=h.frs.row;have hb2:=h.blk.grown hg (Blk.ne_own h.blk hrow (by decide));have hl:Below w0.heap.size w0 W':=Below.grown h.low hg h.low.size (fun k hk=>(hrow.lt k hk).1);have hk:∀k t cs,(t=b4b∨t=INT∨t=TKT)→Blk W k t cs→Blk W' k t cs:=fun k t cs ht hB=>hB.grown hg (Blk.ne_own hB hrow (by rcases ht with rfl | rfl | rfl<;>decide));have hF:=h.frs.push (w':=W') (hd.by_ hk) ho hk hn hgs ht;refine⟨hl.setCell (p:=⟨q,6,none⟩) h.lo _,h.lo,hb2.set_ 6 _,h.prog,h.ins,h.inp,h.tk,?_,hF.by_ fun k t cs ht hB=>hB.aside hb2 (by rcases ht with rfl | rfl | rfl | rfl<;>decide) 6 _⟩;exact b1E (b2K h.out fun k cs _ hB=>hB.grown hg (Blk.ne_own hB hrow (by decide))) hb2 (by decide) 6 _
end
theorem Mc.writes_snoc(a:Int)(n:Int):∀(l:List Int) (i:Nat) (m:Mc),writes a (l++[n]) i m=(writes a l i m).write a ((i+l.length:Nat):Int) 0 n
 | [],i,m=>rfl
 | k::l,i,m=>by
  rw[List.cons_append,writes,writes,writes_snoc a n l,List.length_cons,show i+1+l.length=i+(l.length+1) by omega]
theorem TasksT.one{w0 W:World}{tb:Nat}{t:Tk}{cs:List Value}(hb:Blk W tb TKT cs.toArray)(hl:w0.heap.size≤tb)(ht:TkR w0 t cs)(hc:cs.length=15):TasksT w0 W (.slice (some ⟨tb,0,none⟩) 1 1) [t] tb:=by
 refine⟨⟨cs,⟨hc,.inr ⟨tb,1,cs.toArray,rfl,hl,hb,Nat.le_refl _,by decide,by simp[hc],by show cs.take 15=cs;rw[List.take_of_length_le (by omega)]⟩⟩,fun i u hu=>?_⟩,rfl⟩;cases i with
 | zero =>
  obtain rfl:t=u:=by simpa using hu
  rw[Nat.zero_mul,List.drop_zero,List.take_of_length_le (by omega)];exact ht
 | succ i=>simp at hu
def c4Q:List Value:=[.int .i64 0,.int .i64 0,.int .i64 0,.int .i64 0,.int .i64 0,.slice none 0 0,.int .i64 0,.int .i64 0,.slice none 0 0,.slice none 0 0,.slice none 0 0,.slice none 0 0,.int .i64 0,.bool false,.bool true]
theorem c3p(w0:World):TkR w0 .back c4Q:=⟨[.int .i64 0,.int .i64 0,.int .i64 0,.int .i64 0,.int .i64 0,.slice none 0 0,.int .i64 0,.int .i64 0,.slice none 0 0,.slice none 0 0,.slice none 0 0,.slice none 0 0],PCR.shut (k:=0) (u:=0) (g:=0) (i:=.mk 0 0 []) (e:=.mk 0 0 []) (args:=[]) (thn:=[]) (els:=[]) (Sl.nil_ _ _) (Sl.nil_ _ _) (Sl.nil_ _ _) (Sl.nil_ _ _) (Sl.nil_ _ _),rfl⟩
structure NewFr(w0 W3 W:World)(gf:Nat)(num fn:Int)(z:List Int)(u:Value)(gs:List Nat)(tb:Nat):Prop where
 bel:Bel W3 W
 lo:W3.heap.size≤gf
 blk:Blk W gf FRT #[.int .i64 num,.int .i64 fn,.int .i64 (-1),u,.slice (some ⟨tb,0,none⟩) 1 1]
 vars:VarsG W W3.heap.size u (b0c z) gs
 tasks:TasksT w0 W (.slice (some ⟨tb,0,none⟩) 1 1) [.back] tb
 tlo:W3.heap.size≤tb
theorem NewFr.keep{w0 W3 W W':World}{gf tb:Nat}{num fn:Int}{z:List Int}{u:Value}{gs:List Nat}(h:NewFr w0 W3 W gf num fn z u gs tb)(hb:Bel W W'):NewFr w0 W3 W' gf num fn z u gs tb:=
 ⟨h.bel.tr hb,h.lo,h.blk.keep hb,h.vars.to (hb.own h.vars.row) fun _g _l hB=>hB.keep hb,h.tasks.by_ fun _cs hB=>hB.keep hb,h.tlo⟩
theorem b2y(num fn:Int)(A B:Option Addr)(n c n2 c2:Nat):∀u∈[Value.int .i64 num,.int .i64 fn,.int .i64 (-1),.slice A n c,.slice B n2 c2],u.oneCell'=true:=fun u hu=>by
 simp at hu;rcases hu with rfl | rfl | rfl | rfl | rfl<;>rfl
end Go.Proofs.Ytgkpplbomciehaa
