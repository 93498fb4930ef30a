/- Tasks put onto a frame, by the document: walked. Each lemma states its own conditions. -/
import Derived.Test.YtgkpplbomciehaaStt24
namespace Go.Proofs.Ytgkpplbomciehaa
set_option maxRecDepth 20000
open Go.RowKit
theorem b7S:Elem Try.prog 123 TKT 15 192:=Elem.mk_ (z:=.agg (zQ0 (.bool false) (.bool false))) (by kernel_rfl) (by kernel_rfl) rfl (by decide)
section
variable {o:Oper}{ρ:Operand→Value}{W:World}{x:Operand}{b f:Nat}{v:Value}
theorem b2O(ho:o.op=.load 123 x)(hx:ρ x=.pointer (some ⟨b,f,none⟩))(hc:W.cell? ⟨b,f,none⟩=some v):(execOp ρ o).run Try.prog W=.ok (.value v) W:=by
 simp[execOp,ho,hx,hc,go_sem]
end
theorem b1i{w:World}{base size n:Nat}{e:TypeId}{v:Value}{xs:List Value}(ho:w.ownsRow base e size v n xs):∃A c,v=.slice A n c:=by
 rcases ho.2 with⟨rfl,rfl⟩ | ⟨g,cap,cur,rfl,-⟩
 ·exact⟨_,_,rfl⟩
 ·exact⟨_,_,rfl⟩
theorem b4F{w:World}{base size n:Nat}{e:TypeId}{v:Value}{xs:List Value}(ho:w.ownsRow base e size v n xs)(hn:0<n):∃g cap cur,v=.slice (some ⟨g,0,none⟩) n cap∧base≤g∧Blk w g e cur∧∀W,Blk W g e cur→∀i u,xs[i]? = some u→W.cell? ⟨g,i,none⟩=some u:=by
 rcases ho.2 with⟨_,h⟩ | ⟨g,cap,cur,rfl,hbg,hgg,h1,h2,h3,h4⟩
 ·omega
 ·refine⟨g,cap,cur,rfl,hbg,hgg,fun W hB i u hu=>hB.cell ?_⟩;rw[←h4,List.getElem?_take] at hu;split at hu
  ·simpa using hu
  ·cases hu
theorem b1u:∀(l:List PC) (a:Int),(b1G l a).length=l.length
 | [],_=>rfl
 | x::l,a=>by rw[b1G,List.length_cons,b1u l,List.length_cons]
theorem b5k:∀(a b:List PC) (n:Int),b1G (a++b) n=b1G a n++b1G b (n+b0r a)
 | [],b,n=>by rw[List.nil_append,b0r,b1G,List.nil_append];simp
 | x::a,b,n=>by
  rw[List.cons_append,b1G,b1G,b5k a b,List.cons_append,b0r]
  congr 3
  push_cast
  omega
theorem b6V{l:List PC}{j:Nat}{x:PC}(h:l[j]? = some x)(n:Int):b1G (l.take (j+1)) n=b1G (l.take j) n++[.cmd x (n+b0r (l.take j))]:=by
 rw[b0z h,b5k];rfl
theorem b8s{l:List PC}{j:Nat}{x:PC}(h:l[j]? = some x)(n:Int):(b1G l n)[j]? = some (.cmd x (n+b0r (l.take j))):=by
 have hj:=(List.getElem?_eq_some_iff.1 h).1;have e:b1G l n=b1G (l.take (j+1)) n++b1G (l.drop (j+1)) (n+b0r (l.take (j+1))):=by rw[←b5k,List.take_append_drop]
 rw[e,b6V h,List.append_assoc,List.getElem?_append_right (by rw[b1u,List.length_take];omega),b1u,List.length_take,Nat.min_eq_left (by omega),Nat.sub_self];rfl
def b4A(w0:World)(cells:List Value)(ts:List Tk):Prop:=∀(i:Nat) t,ts[i]? = some t→TkR w0 t ((cells.drop (i*15)).take 15)
theorem b4A.nil(w0:World)(cells:List Value):b4A w0 cells []:=fun i t h=>by simp at h
theorem b4A.snoc{w0:World}{cells cs:List Value}{ts:List Tk}{t:Tk}(h:b4A w0 cells ts)(hl:cells.length=ts.length*15)(ht:TkR w0 t cs)(hc:cs.length=15):b4A w0 (cells++cs) (ts++[t]):=fun i u hu=>by
 have hi:=(List.getElem?_eq_some_iff.1 hu).1;rw[List.length_append,List.length_singleton] at hi;by_cases h2:i<ts.length
 ·rw[List.getElem?_append_left h2] at hu;rw[List.drop_append_of_le_length (by omega),List.take_append_of_le_length (by rw[List.length_drop];omega)];exact h i u hu
 ·obtain rfl:i=ts.length:=by omega
  obtain rfl:t=u:=by simpa using hu
  rw[←hl,List.drop_left' rfl,List.take_of_length_le (by omega)];exact ht
theorem c0k{w:World}{g b:Nat}{xs:List Value}(h:∀i u,xs[i]? = some u→w.cell? ⟨g,i,none⟩=some u):b1D w g b ((xs.drop b).take 15):=fun j u hu=>by
 rw[List.getElem?_take] at hu;split at hu
 ·rw[List.getElem?_drop] at hu;exact h _ u hu
 ·cases hu
structure PushD(w0 w1 W:World)(gf off:Nat)(cur:Array Value)(ts:List Tk)(tb:Nat)(vt:Value)(tb':Nat):Prop where
 tasks:TasksT w0 W vt ts tb'
 new:tb'=tb∨w1.heap.size≤tb'
 blk:Blk W gf FRT (cur.setIfInBounds (off+4) vt)
 at_:off+4<cur.size
 lo:w0.heap.size≤gf
 low:Bel w0 W
 size:w1.heap.size≤W.heap.size
 rest:∀k t cs,k≠gf→k≠tb→Blk w1 k t cs→Blk W k t cs
section
variable {w0 w1 W:World}{gf off:Nat}{cur:Array Value}{ts:List Tk}{tb:Nat}{vt:Value}{tb':Nat}
theorem PushD.keep{W':World}(h:PushD w0 w1 W gf off cur ts tb vt tb')(hb:Bel W W'):PushD w0 w1 W' gf off cur ts tb vt tb':=
 ⟨h.tasks.by_ fun _ hB=>hB.keep hb,h.new,h.blk.keep hb,h.at_,h.lo,h.low.tr hb,Nat.le_trans h.size hb.size,fun k t cs h1 h2 hB=>(h.rest k t cs h1 h2 hB).keep hb⟩
theorem PushD.cell(h:PushD w0 w1 W gf off cur ts tb vt tb'):W.cell? ⟨gf,off+4,none⟩=some vt:=h.blk.cell (by rw[Array.getElem?_setIfInBounds_self_of_lt h.at_])
theorem PushD.step(h:PushD w0 w1 W gf off cur ts tb vt tb'){W':World}{t:Tk}{cells cs:List Value}{g cap:Nat}(hr:W.ownsRow w0.heap.size TKT 15 vt ts.length cells)(hT:b4A w0 cells ts.reverse)(ht:TkR w0 t cs)(hc:cs.length=15)
  (ho:W'.ownsRow w0.heap.size TKT 15 (.slice (some ⟨g,0,none⟩) (ts.length+1) cap) (ts.length+1) (cells++cs)) (hg:W.grownBy W' vt.ownBlock) (hn:vt.ownBlock=some g∨W.heap.size≤g) :
  PushD w0 w1 (W'.setCell ⟨gf,off+4,none⟩ (.slice (some ⟨g,0,none⟩) (ts.length+1) cap)) gf off cur (t::ts) tb (.slice (some ⟨g,0,none⟩) (ts.length+1) cap) g:=by
 have hb:=h.blk.grown hg (Blk.ne_own h.blk hr (by decide));have hlow:Bel w0 W':=Below.grown h.low hg h.low.size (fun k hk=>(hr.lt k hk).1);have hv:=h.tasks.blk;refine⟨⟨⟨_,b1E ho hb (by decide) _ _,?_⟩,rfl⟩,?_,?_,h.at_,h.lo,hlow.setCell (p:=⟨gf,off+4,none⟩) h.lo _,?_,fun k ty ds h1 h2 hB=>?_⟩
 ·rw[List.reverse_cons];exact hT.snoc (by rw[List.length_reverse];exact hr.1) ht hc
 ·rcases hn with hn | hn
  ·rw[hv] at hn;obtain rfl:=Option.some.inj hn;exact h.new
  ·exact .inr (Nat.le_trans h.size hn)
 ·have:=hb.set_ (off+4) (.slice (some ⟨g,0,none⟩) (ts.length+1) cap)
  rwa [Array.setIfInBounds_setIfInBounds] at this
 ·rw[show(W'.setCell ⟨gf,off+4,none⟩ (.slice (some ⟨g,0,none⟩) (ts.length+1) cap)).heap.size=W'.heap.size by simp];exact Nat.le_trans h.size hg.size
 ·have h3:=h.rest k ty ds h1 h2 hB;refine(heap_setCell_other W' ⟨gf,off+4,none⟩ k _ h1).trans (h3.grown hg ?_);rw[hv];intro he;obtain rfl:=Option.some.inj he;rcases h.new with hn | hn
  ·exact h2 hn
  ·have:=hB.lt;omega
end
theorem b4o{w0:World}{t:Tk}{cs:List Value}(h:TkR w0 t cs):∀u∈cs,u.oneCell'=true:=by
 obtain⟨c,h1,rfl⟩:=h;intro u hu;rcases List.mem_append.1 hu with hu | hu
 ·exact b4i h1 u hu
 ·simp at hu;rcases hu with rfl | rfl | rfl<;>rfl
theorem b6K{l:List PC}{r:Nat}{x:PC}(h:l[r]? = some x)(a:Int)(ts:List Tk):(b1G l a).drop r++ts=.cmd x (a+b0r (l.take r))::((b1G l a).drop (r+1)++ts):=by
 obtain⟨h1,h2⟩:=List.getElem?_eq_some_iff.1 (b8s h a);rw[List.drop_eq_getElem_cons h1,h2];rfl
theorem TasksT.lt{w0 w:World}{v:Value}{ts:List Tk}{tb:Nat}(h:TasksT w0 w v ts tb):tb<w.heap.size:=by
 obtain⟨⟨cells,ho,-⟩,hb⟩:=h;exact(ho.lt _ hb).2
theorem PushD.back{w0 w w1 W:World}{gf off:Nat}{cur:Array Value}{ts ts0:List Tk}{tb:Nat}{vt v0:Value}{tb':Nat}(h:PushD w0 w1 W gf off cur ts tb vt tb')(_:w0.heap.size≤gf)(_:Blk w gf FRT cur)(_:TasksT w0 w v0 ts0 tb)(hb:Bel w w1):PushD w0 w W gf off cur ts tb vt tb':=
 ⟨h.tasks,h.new.imp id (fun h=>Nat.le_trans hb.size h),h.blk,h.at_,h.lo,h.low,Nat.le_trans hb.size h.size,fun k t cs h1 h2 hB=>h.rest k t cs h1 h2 (hB.keep hb)⟩
theorem PushD.start{w0 W:World}{gf off:Nat}{cur:Array Value}{ts:List Tk}{tb:Nat}{vt:Value}(hB:Blk W gf FRT cur)(h4:cur[off+4]? = some vt)(hT:TasksT w0 W vt ts tb)(hlow:Bel w0 W)(hgf:w0.heap.size≤gf):PushD w0 W W gf off cur ts tb vt tb:=by
 have hlt:=(Array.getElem?_eq_some_iff.1 h4).1;refine⟨hT,.inl rfl,?_,hlt,hgf,hlow,Nat.le_refl _,fun _ _ _ _ _ h=>h⟩
 have he:cur.setIfInBounds (off+4) vt=cur:=by
  refine Array.ext_getElem? fun i=>?_;rw[Array.getElem?_setIfInBounds];split
  ·rename_i hi
   subst hi;exact h4.symm
  ·rfl
 rw[he];exact hB
theorem b4Q{w0 w:World}(gf off tb:Nat)(cur:Array Value)(vt vl:Value)(ts:List Tk)(l:List PC)(at_:Int)(hlow:Bel w0 w)(hgf:w0.heap.size≤gf)(hB:Blk w gf FRT cur)(h4:cur[off+4]? = some vt)(hT:TasksT w0 w vt ts tb)(hl0:Sl pcR w0 vl l)(hc:b0r l≤1000000)(h0:0≤at_)(h1:at_≤1000000)(hts:ts.length≤1000000)(hll:l.length≤1000000) :
  Calls Try.prog 74 #[.pointer (some ⟨gf,off,none⟩),vl,.int .i64 at_] w fun r w'=>r=.returned (.tuple #[])∧∃vt' tb',PushD w0 w w' gf off cur (b1G l at_++ts) tb vt' tb':=by
 obtain⟨A,c,rfl,-⟩:=b0R hl0;have HB:=Bel.rfl_ w;have hz:at_+((b0r (l.take 0):Nat):Int)=at_:=by rw[List.take_zero,b0r];simp
 have HR0:∃cells,w.ownsRow w.heap.size TKT 15 (.slice none 0 0) 0 cells∧b4A w0 cells (b1G (l.take 0) at_):=⟨[],World.ownsRow_nil _ _ _ _,b4A.nil _ _⟩;refine b1H (c:=_) (args:=[.pointer (some ⟨gf,off,none⟩),.slice A l.length c,.int .i64 at_]) Try.func74 rfl Try.ntmps74 (by kernel_rfl) ?_;refine b0G ?_;refine b0D ?_;refine b0B (some 6) (.slice none 0 0) ?_;refine b0H ?_;refine b0E ?_;refine b0G ?_;refine b0G ?_;refine b0D ?_;refine b0B (some 7) (.int .i64 0) ?_;refine b0H ?_;refine b0E ?_;refine b0e ?_;refine b1e (α:=Nat×Value) (fun p W=>p.1≤l.length∧(∃cells,W.ownsRow w.heap.size TKT 15 p.2 p.1 cells∧b4A w0 cells (b1G (l.take p.1) at_))∧Bel w W) (fun p=>[(0,.pointer (some ⟨gf,off,none⟩)),(1,.slice A l.length c),(2,.int .i64 (at_+(b0r (l.take p.1):Nat))),(6,p.2),(7,.int .i64 (p.1:Int))]) (fun p=>l.length-p.1) (0,.slice none 0 0) [0,1,2,6,7] (by dsimp only;rw[hz];kernel_rfl) ⟨Nat.zero_le _,HR0,HB⟩ ?_;clear HB HR0;rintro⟨j,u⟩ WC ⟨hj,⟨cells,HO,HR⟩,HB⟩;dsimp only at hj HO HR;refine b0G ?_;refine b0G ?_;refine b0D ?_;refine b0B (some 9) (.int .i64 (j:Int)) ?_;refine b0B (some 10) (.slice A l.length c) ?_;refine b0B (some 11) (.int .i64 l.length) ?_;obtain⟨zc1,hzc1⟩:∃b:Bool,decide (((j:Int):Int)<l.length)=b:=⟨_,rfl⟩;refine b0F (some 12) (.bool zc1) (b0u (k:=(j:Int)) (l:=l.length) hzc1) ?_;refine b0H ?_;refine b0E ?_;cases zc1 with
 | true =>
  have hq:(decide (((j:Int):Int)<l.length))=true:=by rw[hzc1]
  simp only[sB] at hq;have hjl:j<l.length:=by omega
  obtain⟨x,hx⟩:∃x,l[j]? = some x:=⟨_,List.getElem?_eq_getElem hjl⟩;obtain⟨b,o,cs,rfl,HCS,hca⟩:=hl0.elem hx;have HCS:PCR w0 x cs:=HCS;obtain⟨vi,ve,va,vt2,vs,rfl,hvi,hve,HAR,HTH,HEL⟩:=b1Z HCS;obtain⟨Ai,ci,rfl,-⟩:=b0R hvi;obtain⟨Ae,ce,rfl,-⟩:=b0R hve;obtain⟨Aa,ca,rfl,-⟩:=b0R HAR;obtain⟨At,ct,rfl,-⟩:=b0R HTH;obtain⟨As,cS,rfl,-⟩:=b0R HEL;have hcx:b1D WC b (o+j*12) [.int .i64 x.kind,.int .i64 x.var,.int .i64 x.fn,.int .i64 x.index.kind,.int .i64 x.index.n,.slice Ai x.index.args.length ci,.int .i64 x.expr.kind,.int .i64 x.expr.n,.slice Ae x.expr.args.length ce,.slice Aa x.args.length ca,.slice At x.thn.length ct,.slice As x.els.length cS]:=b1D.keep (hlow.tr HB) hca;have HTK:TkR w0 (.cmd x (at_+(b0r (l.take j):Nat))) [.int .i64 x.kind,.int .i64 x.var,.int .i64 x.fn,.int .i64 x.index.kind,.int .i64 x.index.n,.slice Ai x.index.args.length ci,.int .i64 x.expr.kind,.int .i64 x.expr.n,.slice Ae x.expr.args.length ce,.slice Aa x.args.length ca,.slice At x.thn.length ct,.slice As x.els.length cS,.int .i64 (at_+(b0r (l.take j):Nat)),.bool false,.bool false]:=⟨_,HCS,rfl⟩;have hE:at_+((b0r (l.take (j+1)):Nat):Int)=(at_+((b0r (l.take j):Nat):Int))+((1+(b0r x.thn:Nat))+(b0r x.els:Nat)):=by rw[b7R hx,PC.cnt_eq];omega
  have hle:=b4v l (j+1);refine b0P ?_;refine b0X ?_;refine b0E ?_;refine b0G ?_;refine b0e ?_;refine b0G ?_;refine b0D ?_;refine b0B (some 15) (u) ?_;refine b0B (some 16) (.slice (some ⟨b,o,none⟩) l.length c) ?_;refine b0B (some 17) (.int .i64 (j:Int)) ?_;refine b0F (some 18) (.pointer (some ⟨b,o+j*12,none⟩)) (b0t b5x b o l.length c j hjl) ?_;refine b0F (some 19) (.agg #[.int .i64 x.kind,.int .i64 x.var,.int .i64 x.fn,.int .i64 x.index.kind,.int .i64 x.index.n,.slice Ai x.index.args.length ci,.int .i64 x.expr.kind,.int .i64 x.expr.n,.slice Ae x.expr.args.length ce,.slice Aa x.args.length ca,.slice At x.thn.length ct,.slice As x.els.length cS]) (b0S 120 (.tmp 18) b5x b (o+j*12) [.int .i64 x.kind,.int .i64 x.var,.int .i64 x.fn,.int .i64 x.index.kind,.int .i64 x.index.n,.slice Ai x.index.args.length ci,.int .i64 x.expr.kind,.int .i64 x.expr.n,.slice Ae x.expr.args.length ce,.slice Aa x.args.length ca,.slice At x.thn.length ct,.slice As x.els.length cS] hcx rfl) ?_;refine b0B (some 20) (.int .i64 (at_+(b0r (l.take j):Nat))) ?_;refine b0B (some 21) (.agg #[.int .i64 x.kind,.int .i64 x.var,.int .i64 x.fn,.int .i64 x.index.kind,.int .i64 x.index.n,.slice Ai x.index.args.length ci,.int .i64 x.expr.kind,.int .i64 x.expr.n,.slice Ae x.expr.args.length ce,.slice Aa x.args.length ca,.slice At x.thn.length ct,.slice As x.els.length cS,.int .i64 (at_+(b0r (l.take j):Nat)),.bool false,.bool false]) ?_;refine b1n (some 22) (.slice (some ⟨WC.heap.size,0,none⟩) 1 1) (WC.alloc (.cells #[.int .i64 x.kind,.int .i64 x.var,.int .i64 x.fn,.int .i64 x.index.kind,.int .i64 x.index.n,.slice Ai x.index.args.length ci,.int .i64 x.expr.kind,.int .i64 x.expr.n,.slice Ae x.expr.args.length ce,.slice Aa x.args.length ca,.slice At x.thn.length ct,.slice As x.els.length cS,.int .i64 (at_+(b0r (l.take j):Nat)),.bool false,.bool false] TKT)) ?_
  refine b3z (some 23) WC (.tmp 15) (.tmp 22) 123 (by kernel_rfl) rfl rfl w.heap.size b7S u j _ (by kernel_rfl) (by kernel_rfl) HO [.int .i64 x.kind,.int .i64 x.var,.int .i64 x.fn,.int .i64 x.index.kind,.int .i64 x.index.n,.slice Ai x.index.args.length ci,.int .i64 x.expr.kind,.int .i64 x.expr.n,.slice Ae x.expr.args.length ce,.slice Aa x.args.length ca,.slice At x.thn.length ct,.slice As x.els.length cS,.int .i64 (at_+(b0r (l.take j):Nat)),.bool false,.bool false] (by kernel_rfl) (by kernel_rfl) rfl (b4o HTK) (by simp only[maxLen];omega) (by omega) HB.size ?_;intro g6 cap6 w6 ho6 hg6 hwh;have HB2:Bel w w6:=Below.grown HB hg6 HB.size (fun k hk=>(HO.lt k hk).1)
  have HR2:b4A w0 (cells++[.int .i64 x.kind,.int .i64 x.var,.int .i64 x.fn,.int .i64 x.index.kind,.int .i64 x.index.n,.slice Ai x.index.args.length ci,.int .i64 x.expr.kind,.int .i64 x.expr.n,.slice Ae x.expr.args.length ce,.slice Aa x.args.length ca,.slice At x.thn.length ct,.slice As x.els.length cS,.int .i64 (at_+(b0r (l.take j):Nat)),.bool false,.bool false]) (b1G (l.take (j+1)) at_):=by
   rw[b6V hx];exact HR.snoc (by rw[b1u,List.length_take,Nat.min_eq_left hj];exact HO.1) HTK rfl
  refine b0B (some 6) (.slice (some ⟨g6,0,none⟩) (j+1) cap6) ?_;refine b0H ?_;refine b0E ?_;refine b1T (fun W=>Bel w6 W) (by kernel_rfl) ((Bel.rfl_ w6).dr) (b1X (b0k (b0k (b1X (b0k b1J))))) ?_;refine b0C 0 (some 24) (.int .i64 (at_+(b0r (l.take j):Nat))) rfl (fun W hW=>by kernel_rfl) ?_;refine b0C 1 (some 25) (.slice (some ⟨b,o,none⟩) l.length c) rfl (fun W hW=>by kernel_rfl) ?_;refine b0C 2 (some 26) (.int .i64 (j:Int)) rfl (fun W hW=>by kernel_rfl) ?_;refine b0C 3 (some 27) (.pointer (some ⟨b,o+j*12,none⟩)) rfl (fun W hW=>b0t b5x b o l.length c j hjl) ?_;refine b0C 4 (some 28) (.pointer (some ⟨b,o+j*12+10,none⟩)) rfl (fun W hW=>by kernel_rfl) ?_;refine b0C 5 (some 29) (.slice At x.thn.length ct) rfl (fun W hW=>b0p (((hlow.tr HB2).tr hW).cell (hca 10 _ rfl))) ?_;refine b0C 8 (some 32) (.slice (some ⟨b,o,none⟩) l.length c) rfl (fun W hW=>by kernel_rfl) ?_;refine b0C 9 (some 33) (.int .i64 (j:Int)) rfl (fun W hW=>by kernel_rfl) ?_;refine b0C 10 (some 34) (.pointer (some ⟨b,o+j*12,none⟩)) rfl (fun W hW=>b0t b5x b o l.length c j hjl) ?_;refine b0C 11 (some 35) (.pointer (some ⟨b,o+j*12+11,none⟩)) rfl (fun W hW=>by kernel_rfl) ?_;refine b0C 12 (some 36) (.slice As x.els.length cS) rfl (fun W hW=>b0p (((hlow.tr HB2).tr hW).cell (hca 11 _ rfl))) ?_;refine b1m 6 (some 30) rfl (by kernel_rfl) 116 #[.slice At x.thn.length ct] (by kernel_rfl) (b4K x.thn _ _ (HTH.keep ((hlow.tr HB2).tr (Bel.rfl_ w6).dr)) (by omega)) ?_;rintro r WE ⟨rfl,hb⟩;have HC:=Bel.tr (Bel.rfl_ w6).dr hb;clear hb;refine⟨_,rfl,HC,?_⟩;refine b0C 7 (some 31) (.int .i64 ((1:Int)+(b0r x.thn:Nat))) rfl (fun W hW=>b0U (k:=1) (l:=(b0r x.thn:Nat)) (by omega) (by omega)) ?_;refine b1m 13 (some 37) rfl (by kernel_rfl) 116 #[.slice As x.els.length cS] (by kernel_rfl) (b4K x.els _ _ (HEL.keep ((hlow.tr HB2).tr HC)) (by omega)) ?_;rintro r WE ⟨rfl,hb⟩;have HC:=Bel.tr HC hb;clear hb;refine⟨_,rfl,HC,?_⟩
  refine b0C 14 (some 38) (.int .i64 ((((1:Int)+(b0r x.thn:Nat)):Int)+(b0r x.els:Nat))) rfl (fun W hW=>b0U (k:=((1:Int)+(b0r x.thn:Nat))) (l:=(b0r x.els:Nat)) (by omega) (by omega)) ?_;refine b0C 15 (some 39) (.int .i64 (((at_+(b0r (l.take j):Nat)):Int)+((((1:Int)+(b0r x.thn:Nat)):Int)+(b0r x.els:Nat)))) rfl (fun W hW=>b0U (k:=(at_+(b0r (l.take j):Nat))) (l:=((((1:Int)+(b0r x.thn:Nat)):Int)+(b0r x.els:Nat))) (by omega) (by omega)) ?_;refine b0C 16 (some 2) (.int .i64 (((at_+(b0r (l.take j):Nat)):Int)+((((1:Int)+(b0r x.thn:Nat)):Int)+(b0r x.els:Nat)))) rfl (fun W hW=>by kernel_rfl) ?_;refine b0f ?_;refine b0Q ?_;refine b0E ?_;refine b0D ?_;refine b0B (some 13) (.int .i64 (j:Int)) ?_;refine b0F (some 14) (.int .i64 (((j:Int):Int)+1)) (b0U (k:=(j:Int)) (l:=1) (by omega) (by omega)) ?_;refine b0B (some 7) (.int .i64 (((j:Int):Int)+1)) ?_;refine b0H ?_;refine b1Q (j+1,.slice (some ⟨g6,0,none⟩) (j+1) cap6) [0,1,2,6,7] (by dsimp only;rw[hE];kernel_rfl) ⟨⟨by dsimp only;omega,⟨_,HC.own ho6,HR2⟩,HB2.tr HC⟩,by dsimp only;omega⟩
 | false =>
  have hq:(decide (((j:Int):Int)<l.length))=false:=by rw[hzc1]
  simp only[sB] at hq;obtain rfl:j=l.length:=by omega
  rw[List.take_length] at HR;refine b0K ?_;refine b1d ?_;refine b0T ?_;refine b0T ?_;refine b0h ?_;refine b0E ?_;refine b0G ?_;obtain⟨A2,c2,rfl⟩:=b1i HO
  have HP0:PushD w0 WC WC gf off cur ((b1G l at_).drop l.length++ts) tb vt tb:=by
   rw[List.drop_of_length_le (by rw[b1u];exact Nat.le_refl _),List.nil_append];have hlt:=(Array.getElem?_eq_some_iff.1 h4).1;refine⟨hT.by_ fun _ h=>h.keep HB,.inl rfl,?_,hlt,hgf,hlow.tr HB,Nat.le_refl _,fun _ _ _ _ _ h=>h⟩
   have he:cur.setIfInBounds (off+4) vt=cur:=by
    refine Array.ext_getElem? fun i=>?_;rw[Array.getElem?_setIfInBounds];split
    ·rename_i hi
     subst hi;exact h4.symm
    ·rfl
   rw[he];exact hB.keep HB
  refine b0D ?_;refine b0B (some 40) (.slice A2 l.length c2) ?_;refine b0B (some 41) (.int .i64 l.length) ?_;refine b0F (some 42) (.int .i64 ((l.length:Int)-1)) (b0n (k:=l.length) (l:=1) (by omega) (by omega) rfl) ?_;refine b0B (some 8) (.int .i64 ((l.length:Int)-1)) ?_;refine b0H ?_;refine b0E ?_;refine b0e ?_;refine b1e (α:=Nat×Value×Nat) (fun p W=>p.1≤l.length∧PushD w0 WC W gf off cur ((b1G l at_).drop p.1++ts) tb p.2.1 p.2.2) (fun p=>[(0,.pointer (some ⟨gf,off,none⟩)),(6,.slice A2 l.length c2),(8,.int .i64 ((p.1:Int)-1))]) (fun p=>p.1) (l.length,vt,tb) [0,6,8] (by kernel_rfl) ⟨Nat.le_refl _,HP0⟩ ?_;clear HP0;have HOW:=HO;have HRW:=HR;have HBW:=HB;clear HO HR HB
  revert HOW HRW HBW
  generalize WC=W1;intro HO HR HB;rintro⟨k,vu,tu⟩ WC ⟨hk,HP⟩;dsimp only at hk HP;refine b0G ?_;refine b0G ?_;refine b0D ?_;refine b0B (some 43) (.int .i64 ((k:Int)-1)) ?_;obtain⟨zc2,hzc2⟩:∃b:Bool,decide ((0:Int)≤((k:Int)-1))=b:=⟨_,rfl⟩;refine b0F (some 44) (.bool zc2) (b7A (k:=((k:Int)-1)) (l:=0) rfl (by kernel_rfl) (by kernel_rfl) hzc2) ?_;refine b0H ?_;refine b0E ?_;cases zc2 with
  | true =>
   have hq:(decide ((0:Int)≤((k:Int)-1)))=true:=by rw[hzc2]
   simp only[sB] at hq;obtain⟨r,hr⟩:∃r,k=r+1:=⟨k-1,by omega⟩;rw[hr] at HP;have hkr:((r:Nat):Int)=(k:Int)-1:=by omega
   have hrl:r<l.length:=by omega
   obtain⟨x,hx⟩:∃x,l[r]? = some x:=⟨_,List.getElem?_eq_getElem hrl⟩;obtain⟨go,c3,curo,he2,hgo,hBo1,hcw⟩:=b4F HO (by omega);injection he2 with he3 he4 he5;subst he3;subst he5;have HTK:=HR r _ (b8s hx at_);have hcell0:=fun W hW=>c0k (b:=r*15) (hcw W hW);obtain⟨cs,HCS,hcs⟩:=HTK;have HCS:PCR w0 x cs:=HCS;obtain⟨vi,ve,va,vt2,vs,rfl,hvi,hve,HAR,HTH,HEL⟩:=b1Z HCS;obtain⟨Ai,ci,rfl,-⟩:=b0R hvi;obtain⟨Ae,ce,rfl,-⟩:=b0R hve;obtain⟨Aa,ca,rfl,-⟩:=b0R HAR;obtain⟨At,ct,rfl,-⟩:=b0R HTH;obtain⟨As,cS,rfl,-⟩:=b0R HEL;rw[hcs] at hcell0;have hcell:∀W,Blk W go TKT curo→b1D W go (r*15) [.int .i64 x.kind,.int .i64 x.var,.int .i64 x.fn,.int .i64 x.index.kind,.int .i64 x.index.n,.slice Ai x.index.args.length ci,.int .i64 x.expr.kind,.int .i64 x.expr.n,.slice Ae x.expr.args.length ce,.slice Aa x.args.length ca,.slice At x.thn.length ct,.slice As x.els.length cS,.int .i64 (at_+(b0r (l.take r):Nat)),.bool false,.bool false]:=hcell0;have HTK:TkR w0 (.cmd x (at_+(b0r (l.take r):Nat))) [.int .i64 x.kind,.int .i64 x.var,.int .i64 x.fn,.int .i64 x.index.kind,.int .i64 x.index.n,.slice Ai x.index.args.length ci,.int .i64 x.expr.kind,.int .i64 x.expr.n,.slice Ae x.expr.args.length ce,.slice Aa x.args.length ca,.slice At x.thn.length ct,.slice As x.els.length cS,.int .i64 (at_+(b0r (l.take r):Nat)),.bool false,.bool false]:=⟨_,HCS,rfl⟩;have htbw:=hT.lt
   have hgt:go≠tu:=by
    have:=hBo1.lt;rcases HP.new with h | h
    ·omega
    ·omega
   have hBo:Blk WC go TKT curo:=HP.rest go TKT curo ((hBo1.ne (hB.keep HB) (by decide))) (by omega) hBo1;have hln:((b1G l at_).drop (r+1)++ts).length≤2000000:=by rw[List.length_append,List.length_drop,b1u];omega
   refine b0P ?_;refine b0X ?_;refine b0E ?_;refine b0G ?_;refine b0e ?_;refine b1T (fun W=>Blk W go TKT curo) (by kernel_rfl) (hBo.keep (Bel.rfl_ WC).dr) (b1X (b0k (b0k (b1X b1J)))) ?_;have HPW:=HP.keep (Bel.rfl_ WC).dr;have hBoD:=hBo.keep (Bel.rfl_ WC).dr;generalize WC.drew=WD at *;obtain⟨tcells,htr,hTR⟩:=HPW.tasks.row;refine b0C 0 (some 47) (.pointer (some ⟨gf,off,none⟩)) rfl (fun W hW=>by kernel_rfl) ?_;refine b0C 1 (some 48) (.pointer (some ⟨gf,off,none⟩)) rfl (fun W hW=>by kernel_rfl) ?_;refine b0C 2 (some 49) (.pointer (some ⟨gf,off,none⟩)) rfl (fun W hW=>by kernel_rfl) ?_;refine b0C 3 (some 50) (.pointer (some ⟨gf,off+4,none⟩)) rfl (fun W hW=>by kernel_rfl) ?_;refine b0C 5 (some 52) (.slice (some ⟨go,0,none⟩) l.length c2) rfl (fun W hW=>by kernel_rfl) ?_;refine b0C 6 (some 53) (.int .i64 ((k:Int)-1)) rfl (fun W hW=>by kernel_rfl) ?_;refine b0C 7 (some 54) (.pointer (some ⟨go,r*15,none⟩)) rfl (fun W hW=>b3A b7S go l.length c2 r rfl (by kernel_rfl) (by rw[hkr];kernel_rfl) hrl) ?_;refine b0C 8 (some 55) (.agg #[.int .i64 x.kind,.int .i64 x.var,.int .i64 x.fn,.int .i64 x.index.kind,.int .i64 x.index.n,.slice Ai x.index.args.length ci,.int .i64 x.expr.kind,.int .i64 x.expr.n,.slice Ae x.expr.args.length ce,.slice Aa x.args.length ca,.slice At x.thn.length ct,.slice As x.els.length cS,.int .i64 (at_+(b0r (l.take r):Nat)),.bool false,.bool false]) rfl (fun W hW=>b0S TKT (.tmp 54) b7S go (r*15) [.int .i64 x.kind,.int .i64 x.var,.int .i64 x.fn,.int .i64 x.index.kind,.int .i64 x.index.n,.slice Ai x.index.args.length ci,.int .i64 x.expr.kind,.int .i64 x.expr.n,.slice Ae x.expr.args.length ce,.slice Aa x.args.length ca,.slice At x.thn.length ct,.slice As x.els.length cS,.int .i64 (at_+(b0r (l.take r):Nat)),.bool false,.bool false] (hcell _ hW) rfl) ?_;refine b3f 4 9 (by kernel_rfl) ?_ ?_
   ·skip
    refine b3Y (some 51) (vu) _ rfl (by kernel_rfl) (b2O rfl (by kernel_rfl) ((HPW.keep (Bel.rfl_ WD)).cell)) (hBoD.keep (Bel.rfl_ WD)) ?_;refine b2Y 9 (some 56) (.slice (some ⟨WD.heap.size,0,none⟩) 1 1) (WD.alloc (.cells #[.int .i64 x.kind,.int .i64 x.var,.int .i64 x.fn,.int .i64 x.index.kind,.int .i64 x.index.n,.slice Ai x.index.args.length ci,.int .i64 x.expr.kind,.int .i64 x.expr.n,.slice Ae x.expr.args.length ce,.slice Aa x.args.length ca,.slice At x.thn.length ct,.slice As x.els.length cS,.int .i64 (at_+(b0r (l.take r):Nat)),.bool false,.bool false] TKT)) rfl (by kernel_rfl) (by kernel_rfl) (hBoD.keep ((Bel.rfl_ WD).al _)) ?_;refine b4T 10 (some 57) WD (.tmp 51) (.tmp 56) 123 rfl (by kernel_rfl) rfl rfl w0.heap.size b7S vu _ _ (by kernel_rfl) (by kernel_rfl) htr [.int .i64 x.kind,.int .i64 x.var,.int .i64 x.fn,.int .i64 x.index.kind,.int .i64 x.index.n,.slice Ai x.index.args.length ci,.int .i64 x.expr.kind,.int .i64 x.expr.n,.slice Ae x.expr.args.length ce,.slice Aa x.args.length ca,.slice At x.thn.length ct,.slice As x.els.length cS,.int .i64 (at_+(b0r (l.take r):Nat)),.bool false,.bool false] (by kernel_rfl) (by kernel_rfl) rfl (b4o HTK) (by simp only[maxLen];omega) (by omega) HPW.low.size ?_;intro g6 cap6 w6 ho6 hg6 hwh;have HP6:=HPW.step htr hTR HTK rfl ho6 hg6 hwh;have hgo6:Blk w6 go TKT curo:=hBoD.grown hg6 (by rw[HPW.tasks.blk];exact fun he=>hgt (Option.some.inj he));have hbf:=HPW.blk.grown hg6 (Blk.ne_own HPW.blk htr (by decide));refine⟨hgo6,?_⟩;refine b0C 11 (some 58) (.pointer (some ⟨gf,off,none⟩)) rfl (fun W hW=>by kernel_rfl) ?_;refine b0C 12 (some 59) (.pointer (some ⟨gf,off+4,none⟩)) rfl (fun W hW=>by kernel_rfl) ?_;refine b2Z 13 none (w6.setCell ⟨gf,off+4,none⟩ (.slice (some ⟨g6,0,none⟩) (((b1G l at_).drop (r+1)++ts).length+1) cap6)) rfl (by kernel_rfl) (b4y rfl (by kernel_rfl) (by kernel_rfl) (hbf.cell (by rw[Array.getElem?_setIfInBounds_self_of_lt HPW.at_])) (hbf.frozen _)) (hgo6.aside hbf (by decide) _ _) ?_;refine b0f ?_;refine b0Q ?_
    refine b0E ?_;refine b0D ?_;refine b0B (some 45) (.int .i64 ((k:Int)-1)) ?_;refine b0F (some 46) (.int .i64 ((((k:Int)-1):Int)-1)) (b0n (k:=((k:Int)-1)) (l:=1) (by omega) (by omega) rfl) ?_;refine b0B (some 8) (.int .i64 ((((k:Int)-1):Int)-1)) ?_;refine b0H ?_;refine b1Q (r,.slice (some ⟨g6,0,none⟩) (((b1G l at_).drop (r+1)++ts).length+1) cap6,g6) [0,6,8] (by dsimp only;rw[hkr];kernel_rfl) ⟨⟨by dsimp only;omega,?_⟩,by dsimp only;omega⟩;dsimp only;rw[b6K hx];exact HP6
   ·skip
    refine b3Y (some 56) (.slice (some ⟨WD.heap.size,0,none⟩) 1 1) (WD.alloc (.cells #[.int .i64 x.kind,.int .i64 x.var,.int .i64 x.fn,.int .i64 x.index.kind,.int .i64 x.index.n,.slice Ai x.index.args.length ci,.int .i64 x.expr.kind,.int .i64 x.expr.n,.slice Ae x.expr.args.length ce,.slice Aa x.args.length ca,.slice At x.thn.length ct,.slice As x.els.length cS,.int .i64 (at_+(b0r (l.take r):Nat)),.bool false,.bool false] TKT)) rfl (by kernel_rfl) (by kernel_rfl) (hBoD.keep ((Bel.rfl_ WD).al _)) ?_;refine b2Y 4 (some 51) (vu) _ rfl (by kernel_rfl) (b2O rfl (by kernel_rfl) ((HPW.keep ((Bel.rfl_ WD).al (.cells #[.int .i64 x.kind,.int .i64 x.var,.int .i64 x.fn,.int .i64 x.index.kind,.int .i64 x.index.n,.slice Ai x.index.args.length ci,.int .i64 x.expr.kind,.int .i64 x.expr.n,.slice Ae x.expr.args.length ce,.slice Aa x.args.length ca,.slice At x.thn.length ct,.slice As x.els.length cS,.int .i64 (at_+(b0r (l.take r):Nat)),.bool false,.bool false] TKT))).cell)) (hBoD.keep ((Bel.rfl_ WD).al (.cells #[.int .i64 x.kind,.int .i64 x.var,.int .i64 x.fn,.int .i64 x.index.kind,.int .i64 x.index.n,.slice Ai x.index.args.length ci,.int .i64 x.expr.kind,.int .i64 x.expr.n,.slice Ae x.expr.args.length ce,.slice Aa x.args.length ca,.slice At x.thn.length ct,.slice As x.els.length cS,.int .i64 (at_+(b0r (l.take r):Nat)),.bool false,.bool false] TKT))) ?_;refine b4T 10 (some 57) WD (.tmp 51) (.tmp 56) 123 rfl (by kernel_rfl) rfl rfl w0.heap.size b7S vu _ _ (by kernel_rfl) (by kernel_rfl) htr [.int .i64 x.kind,.int .i64 x.var,.int .i64 x.fn,.int .i64 x.index.kind,.int .i64 x.index.n,.slice Ai x.index.args.length ci,.int .i64 x.expr.kind,.int .i64 x.expr.n,.slice Ae x.expr.args.length ce,.slice Aa x.args.length ca,.slice At x.thn.length ct,.slice As x.els.length cS,.int .i64 (at_+(b0r (l.take r):Nat)),.bool false,.bool false] (by kernel_rfl) (by kernel_rfl) rfl (b4o HTK) (by simp only[maxLen];omega) (by omega) HPW.low.size ?_;intro g6 cap6 w6 ho6 hg6 hwh
    have HP6:=HPW.step htr hTR HTK rfl ho6 hg6 hwh;have hgo6:Blk w6 go TKT curo:=hBoD.grown hg6 (by rw[HPW.tasks.blk];exact fun he=>hgt (Option.some.inj he));have hbf:=HPW.blk.grown hg6 (Blk.ne_own HPW.blk htr (by decide));refine⟨hgo6,?_⟩;refine b0C 11 (some 58) (.pointer (some ⟨gf,off,none⟩)) rfl (fun W hW=>by kernel_rfl) ?_;refine b0C 12 (some 59) (.pointer (some ⟨gf,off+4,none⟩)) rfl (fun W hW=>by kernel_rfl) ?_;refine b2Z 13 none (w6.setCell ⟨gf,off+4,none⟩ (.slice (some ⟨g6,0,none⟩) (((b1G l at_).drop (r+1)++ts).length+1) cap6)) rfl (by kernel_rfl) (b4y rfl (by kernel_rfl) (by kernel_rfl) (hbf.cell (by rw[Array.getElem?_setIfInBounds_self_of_lt HPW.at_])) (hbf.frozen _)) (hgo6.aside hbf (by decide) _ _) ?_;refine b0f ?_;refine b0Q ?_;refine b0E ?_;refine b0D ?_;refine b0B (some 45) (.int .i64 ((k:Int)-1)) ?_;refine b0F (some 46) (.int .i64 ((((k:Int)-1):Int)-1)) (b0n (k:=((k:Int)-1)) (l:=1) (by omega) (by omega) rfl) ?_;refine b0B (some 8) (.int .i64 ((((k:Int)-1):Int)-1)) ?_;refine b0H ?_;refine b1Q (r,.slice (some ⟨g6,0,none⟩) (((b1G l at_).drop (r+1)++ts).length+1) cap6,g6) [0,6,8] (by dsimp only;rw[hkr];kernel_rfl) ⟨⟨by dsimp only;omega,?_⟩,by dsimp only;omega⟩;dsimp only;rw[b6K hx];exact HP6
  | false =>
   have hq:(decide ((0:Int)≤((k:Int)-1)))=false:=by rw[hzc2]
   simp only[sB] at hq;obtain rfl:k=0:=by omega
   rw[List.drop_zero] at HP;refine b0K ?_;refine b1d ?_;refine b0T ?_;refine b0T ?_;refine b0h ?_;refine b1z rfl ?_;exact⟨rfl,_,_,HP.back hgf hB hT HB⟩
end Go.Proofs.Ytgkpplbomciehaa
