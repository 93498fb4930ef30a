/- From a contract 'it answers true and leaves all that there was' to what a law's row asks: arguments opened, read again, the frame. Each lemma states its own conditions. -/
import Derived.SizedLaws
import Derived.Deep.Slices
import Derived.OpenShut
import Derived.Test.YtgkpplbomciehaaStt49
namespace Go.Proofs.Ytgkpplbomciehaa
open Go.ChangeShapes Go.WideShapes Go.ChangeAt Go.RowKit
section
variable {H:Type}{enc:TypeId×Value→H}{P:Program}
theorem b4V(hl:laidOutB P=true){W W':World}(hb:Bel W W'):∀{ts:List TypeId} {vs:List Value} {ds:List (DataW H)} {ps:List MemPlace},(∀t∈ts,P.readableRec t=true∧t<P.types.size) →
  DataW.TrodAll enc P W 0 (fun _=>true) true ts vs ds ps→(∀x∈ps,x.block<W.heap.size)→DataW.TrodAll enc P W' 0 (fun b=>decide (b<W.heap.size)) true ts vs ds ps
 | [],vs,ds,ps,_,h,_=>by
  obtain⟨rfl,rfl,rfl⟩:=trodAll_nil h;exact trodAll_mk0
 | t::ts,vs,ds,ps,ht,h,hlt=>by
  obtain⟨v,vs',d,ds',p,p',rfl,rfl,rfl,h0,h1⟩:=trodAll_cons h;obtain⟨hr,hrow⟩:=ht t (by simp);exact trodAll_cons_mk (Below.trod hl hr hrow h0 hb (fun x hx=>hlt x (by simp[hx]))) (b4V hl hb (fun t h=>ht t (by simp[h])) h1 (fun x hx=>hlt x (by simp[hx])))
theorem c1i{fn:Func}{s:ChangeSpec}{tb:TypeId}(hv:s.vars=[])(hrt:fn.resultTypes=#[tb])(htb:P.underlying tb=some .bool)(hl:laidOutB P=true)(hp:∀t∈fn.params.toList,P.readableRec t=true∧t<P.types.size)
  {W W':World} {args:Array Value} {ds gs:List (DataW H)} {before:List MemPlace} (hW:DataW.Whole enc P fn.params.toList s.vars false W args.toList ds gs before)
  (hs:s.fn H (ds++gs)={ results:=[.lit (.bool true)],args:=ds }) (hb:Bel W W'):s.post enc P fn false true false false W args (.bool true) W':=by
 have hW':=hW;obtain⟨p,q,hA,hV,rfl,_,_⟩:=hW;rw[hv] at hV;obtain⟨rfl,rfl⟩:=trodVars_none hV;have hlt:∀x∈p,x.block<W.heap.size:=fun x hx=>hW'.lt x (by simp[hx]);refine⟨ds,[],p++[],[],p,[],hW',?_,?_,?_,hb.frame _,fun h=>by cases h⟩
 ·rw[hs,hrt];have e:(Value.bool true).resultList (#[tb].size)=[Value.bool true]:=rfl;rw[e];exact trodAll_mk1 (shut_bool htb _)
 ·rw[hs];exact b4V hl hb hp hA hlt
 ·rw[hs,hv];rfl
def c3o(enc:TypeId×Value→H)(P:Program)(W:World){α:Type}(r:Rep α)(ok:α→Prop)(e:TypeId):Prop:=
 ∀(n:Nat) (cs:List Value) (y:DataW H×List MemPlace),cs.length=r.size→DataW.trod enc P W 0 (fun _=>true) true n e cs=some y→∃x,r.R W cs x∧ok x
theorem b7Q{w:World}{a:Addr}{n:Nat}{cs:List Value}(h:∀i,i<n→w.cell? (a.add i)=cs[i]?)(hl:cs.length=n)(hn:0<n):a.spot=none:=by
 have h0:=h 0 hn;have:cs[0]? = some (cs[0]'(by omega)):=List.getElem?_eq_getElem (by omega);rw[this] at h0
 simpa[Addr.add] using World.cell?_spot h0
theorem c3C{W:World}{α:Type}{r:Rep α}{ok:α→Prop}{t e:TypeId}(ht:P.underlying t=some (.slice e))(hC:P.cellsOf e=r.size)(h0:0<r.size)(hel:c3o enc P W r ok e)
  {fuel:Nat} {cs:List Value} {x:DataW H×List MemPlace} (h:DataW.trod enc P W 0 (fun _=>true) true fuel t cs=some x) :
  ∃v xs,cs=[v]∧Sl r W v xs∧(∀x∈xs,ok x)∧((x.1=.nil∧xs=[])∨∃elems spare,x.1=.slice elems spare∧elems.length=xs.length):=by
 rcases Deep.open_slice ht h with⟨rfl,rfl⟩ | ⟨a,len,cap,m,n,D,Pl,rfl,_,hlc,hcm,hm,rfl,hi⟩
 ·exact⟨_,[],rfl,Sl.nil_ _ _,by simp,.inl ⟨rfl,rfl⟩⟩
 ·simp only[if_true] at hm;subst hm;rw[hC] at hi
  have hx:∀i,i<len→∃x,ok x∧∃cs',r.R W cs' x∧∀j,j<r.size→W.cell? ((a.add (i*r.size)).add j)=cs'[j]?:=fun i hlt=>by
   obtain⟨cs',hc,htr⟩:=hi i (by omega);obtain⟨_,hl,hcell⟩:=World.cells?_some hc;obtain⟨x,hR,hok⟩:=hel _ _ _ hl htr;exact⟨x,hok,cs',hR,hcell⟩
  have hspot:0<len→a.spot=none:=fun hp=>by
   obtain⟨x,_,cs',hR,hcell⟩:=hx 0 hp;refine b7Q (w:=W) (n:=r.size) (cs:=cs') (fun i hi'=>?_) (r.len hR) h0;have:=hcell i hi'
   simpa[Addr.add] using this
  refine⟨_,(List.range len).pmap (fun i hi'=>Classical.choose (hx i hi')) (fun i hi'=>List.mem_range.1 hi'),rfl,⟨some a,m,by simp,by simpa using hlc,⟨hcm,fun h=>by cases h⟩,fun hp=>?_⟩,?_,.inr ⟨_,_,rfl,by simp⟩⟩
  ·have hs:=hspot (by simpa using hp);obtain⟨b,o,sp⟩:=a;simp only at hs;subst hs;refine⟨b,o,rfl,fun k x hk=>?_⟩;rw[List.getElem?_pmap] at hk
   have hk2:k<len:=by
    rcases Nat.lt_or_ge k len with h | h
    ·exact h
    ·simp[h] at hk
   simp only[List.getElem?_range hk2,Option.pmap_some,Option.some.injEq] at hk;obtain⟨_,cs',hR,hcell⟩:=Classical.choose_spec (hx k hk2);rw[hk] at hR;refine⟨cs',hR,fun j u hu=>?_⟩;have hj:j<r.size:=by rw[←r.len hR];exact(List.getElem?_eq_some_iff.1 hu).1
   have h1:=hcell j hj;rw[hu] at h1
   have e1:((⟨b,o,none⟩:Addr).add (k*r.size)).add j=⟨b,o+k*r.size+j,none⟩:=by
    unfold Addr.add;by_cases hk0:k*r.size=0<;>by_cases hj0:j=0<;>simp[hk0,hj0]
   rw[e1] at h1;exact h1
  ·intro x hx';obtain⟨i,hi',rfl⟩:=List.mem_pmap.1 hx';exact(Classical.choose_spec (hx i (List.mem_range.1 hi'))).1
def b6o(n:Int):Prop:=-9223372036854775808≤n∧n≤9223372036854775807
def c4j(e:Ev):Prop:=b6o e.kind∧b6o e.frame∧b6o e.at_∧b6o e.var∧b6o e.index∧b6o e.value
theorem c1g{n:Int}(h:(Lit.int .i64 n).wf=true):b6o n:=by
 have h1:IntKind.i64.min=-9223372036854775808:=rfl;have h2:IntKind.i64.max=9223372036854775807:=rfl;simp only[Lit.wf,Bool.and_eq_true,decide_eq_true_eq] at h;unfold b6o;omega
theorem b9R{W:World}{fs:Array Field}{t:TypeId}{n:Nat}{cs:List Value}{y:DataW H×List MemPlace}(ht:P.underlying t=some (.struct fs))(h:DataW.trod enc P W 0 (fun _=>true) true n t cs=some y)
  {i:Nat} {f:Field} (hf:fs[i]? = some f):∃m y',DataW.trod enc P W 0 (fun _=>true) true m f.type ((cs.drop f.offset).take (P.cellsOf f.type))=some y':=by
 obtain⟨xs,m,_,_,_,hlen,hg⟩:=DataW.trod_struct ht h;have hlt:i<xs.length:=by rw[hlen];exact(Array.getElem?_eq_some_iff.1 hf).1
 exact⟨m,xs[i],by rw[hg i f hf,List.getElem?_eq_getElem hlt]⟩
end
end Go.Proofs.Ytgkpplbomciehaa
namespace Go.Proofs.Ytgkpplbomciehaa
open Go.ChangeShapes Go.WideShapes Go.ChangeAt Go.RowKit
theorem ownK:ownKnob Try.prog.godebug=none:=by kernel_rfl
theorem c1h:laidOutB Try.prog=true:=by kernel_rfl
theorem c2k:Try.prog.cellsOf 63=6:=by kernel_rfl
theorem b2u:Try.prog.cellsOf 3=1:=by kernel_rfl
theorem c2g:Try.prog.bytesOf 63=48:=by kernel_rfl
theorem c1r{H:Type}{enc:TypeId×Value→H}{W:World}:c3o enc Try.prog W evR c4j 63:=by
 intro n cs y hl h
 have hf:∀(i:Nat) (f:Field),i<6→(∃fs,Try.prog.underlying 63=some (.struct fs)∧fs[i]? = some f∧f.type=3∧f.offset=i)→∃k,cs[i]? = some (.int .i64 k)∧b6o k:=by
  rintro i f hi ⟨fs,hu,hfi,hft,hfo⟩;obtain⟨m,y',h1⟩:=b9R hu h hfi;rw[hft,hfo,b2u] at h1;obtain⟨k,hk,_,hw⟩:=DataW.trod_int Try.underlying3 h1;refine⟨k,?_,c1g hw⟩;have h2:((cs.drop i).take 1)[0]? = some (.int .i64 k):=by rw[hk];rfl
  rw[List.getElem?_take] at h2
  simpa using h2
 obtain⟨k0,e0,w0⟩:=hf 0 _ (by omega) ⟨_,Try.underlying63,rfl,rfl,rfl⟩;obtain⟨k1,e1,w1⟩:=hf 1 _ (by omega) ⟨_,Try.underlying63,rfl,rfl,rfl⟩;obtain⟨k2,e2,w2⟩:=hf 2 _ (by omega) ⟨_,Try.underlying63,rfl,rfl,rfl⟩;obtain⟨k3,e3,w3⟩:=hf 3 _ (by omega) ⟨_,Try.underlying63,rfl,rfl,rfl⟩;obtain⟨k4,e4,w4⟩:=hf 4 _ (by omega) ⟨_,Try.underlying63,rfl,rfl,rfl⟩;obtain⟨k5,e5,w5⟩:=hf 5 _ (by omega) ⟨_,Try.underlying63,rfl,rfl,rfl⟩;refine⟨⟨k0,k1,k2,k3,k4,k5⟩,?_,w0,w1,w2,w3,w4,w5⟩;show cs=_;have hl6:cs.length=6:=hl
 match cs,hl6 with
 | [a,b,c,d,e,f],_ =>
  simp only[List.getElem?_cons_zero,List.getElem?_cons_succ,Option.some.injEq] at e0 e1 e2 e3 e4 e5;rw[e0,e1,e2,e3,e4,e5];rfl
theorem c1p{H:Type}{enc:TypeId×Value→H}{W:World}{v:Value}{d:DataW H}{p:List MemPlace}(hv:∃a len cap,v=.slice a len cap)(h:DataW.Trod enc Try.prog W 0 (fun _=>true) true 27 v d p) :
  ∃xs:List Ev,Sl evR W v xs∧(∀x∈xs,c4j x)∧((d=.nil∧xs=[])∨∃elems spare,d=.slice elems spare∧elems.length=xs.length):=by
 obtain⟨a,len,cap,rfl⟩:=hv;obtain⟨fuel,hf⟩:=h;obtain⟨v,xs,hc,hs,ho,hd⟩:=c3C Try.underlying27 c2k (by decide) c1r hf;simp only[Value.cells,List.cons.injEq,and_true] at hc;subst hc;exact⟨xs,hs,ho,hd⟩
theorem c0M{H:Type}{ts:List TypeId}{ds:List (DataW H)}(hsz:(DataW.weightsEach Try.prog ts ds).all (·≤reachBytes)=true){j:Nat}{d:DataW H}(ht:ts[j]? = some 27)(hd:ds[j]? = some d){xs:List Ev}
  (h:(d=.nil∧xs=[])∨∃elems spare,d=.slice elems spare∧elems.length=xs.length):xs.length*48≤140737488351232:=by
 rcases h with⟨_,rfl⟩ | ⟨elems,spare,rfl,hl⟩
 ·simp
 ·have:=sized_slice hsz ht hd Try.underlying27;rw[c2g,hl] at this;simp only[reachBytes] at this;omega
end Go.Proofs.Ytgkpplbomciehaa
namespace Go.Proofs.Ytgkpplbomciehaa
open Go.ChangeShapes Go.WideShapes Go.ChangeAt Go.RowKit
section
variable {H:Type}{enc:TypeId×Value→H}{P:Program}{W:World}
theorem b3N{α:Type}{r:Rep α}{t e:TypeId}(ht:P.underlying t=some (.slice e))(hC:P.cellsOf e=r.size)(h0:0<r.size){fuel:Nat}
  (hel:∀m,m<fuel→∀(cs:List Value) (y:DataW H×List MemPlace),cs.length=r.size→DataW.trod enc P W 0 (fun _=>true) true m e cs=some y→∃x,r.R W cs x)
  {cs:List Value} {x:DataW H×List MemPlace} (h:DataW.trod enc P W 0 (fun _=>true) true fuel t cs=some x):∃v xs,cs=[v]∧Sl r W v xs:=by
 rcases DataW.trod_slice ht h with⟨hc,_⟩ | ⟨a,len,cap,elems,rest,m,hm,hc,_,_,hlc,hcm,hel2,hei,_,_⟩
 ·exact⟨.slice none 0 0,[],hc,Sl.nil_ _ _⟩
 ·have hx:∀i,i<len→∃x cs',r.R W cs' x∧∀j,j<r.size→W.cell? ((a.add (i*r.size)).add j)=cs'[j]?:=fun i hi=>by
   have h5:=hei i hi;rw[hC,List.getElem?_eq_getElem (by omega)] at h5;obtain⟨cs',hcs,htr⟩:=Option.bind_eq_some_iff.1 h5;obtain⟨_,hl,hcell⟩:=World.cells?_some hcs;obtain⟨x,hq⟩:=hel m (by omega) cs' _ hl htr;exact⟨x,cs',hq,hcell⟩
  refine⟨.slice (some a) len cap,(List.range len).pmap (fun i hi'=>Classical.choose (hx i hi')) (fun i hi'=>List.mem_range.1 hi'),hc,⟨some a,cap,by simp,by simpa using hlc,⟨hcm,fun h=>by cases h⟩,fun hp=>?_⟩⟩
  have hs:a.spot=none:=by
   obtain⟨x,cs',hq,hcell⟩:=hx 0 (by simpa using hp);refine b7Q (w:=W) (n:=r.size) (cs:=cs') (fun i hi'=>?_) (r.len hq) h0;have:=hcell i hi'
   simpa[Addr.add] using this
  obtain⟨b,o,sp⟩:=a;simp only at hs;subst hs;refine⟨b,o,rfl,fun k x hk=>?_⟩;rw[List.getElem?_pmap] at hk
  have hk2:k<len:=by
   rcases Nat.lt_or_ge k len with h | h
   ·exact h
   ·simp[h] at hk
  simp only[List.getElem?_range hk2,Option.pmap_some,Option.some.injEq] at hk;obtain⟨cs',hq,hcell⟩:=Classical.choose_spec (hx k hk2);rw[hk] at hq;refine⟨cs',hq,fun j u hu=>?_⟩
  have hj:j<r.size:=by
   have:=(List.getElem?_eq_some_iff.1 hu).1;have h6:=r.len hq;omega
  have h1:=hcell j hj;rw[hu] at h1
  have e1:((⟨b,o,none⟩:Addr).add (k*r.size)).add j=⟨b,o+k*r.size+j,none⟩:=by
   unfold Addr.add;by_cases hk0:k*r.size=0<;>by_cases hj0:j=0<;>simp[hk0,hj0]
  rw[e1] at h1;exact h1
theorem b3O{fs:Array Field}{t:TypeId}{fuel:Nat}{cs:List Value}{y:DataW H×List MemPlace}(ht:P.underlying t=some (.struct fs))(h:DataW.trod enc P W 0 (fun _=>true) true fuel t cs=some y) :
  cs.length=P.cellsOf t∧∃n,n<fuel∧∀(i:Nat) (f:Field),fs[i]? = some f→∃y',DataW.trod enc P W 0 (fun _=>true) true n f.type ((cs.drop f.offset).take (P.cellsOf f.type))=some y':=by
 obtain⟨xs,n,rfl,_,hlen,hxl,hg⟩:=DataW.trod_struct ht h;refine⟨hlen,n,by omega,fun i f hf=>?_⟩;have h1:=hg i f hf
 have hi:i<xs.length:=by
  rw[hxl];exact(Array.getElem?_eq_some_iff.1 hf).1
 rw[List.getElem?_eq_getElem hi] at h1;exact⟨_,h1⟩
end
theorem cEs:Try.prog.cellsOf 45=1:=by kernel_rfl
theorem cCs:Try.prog.cellsOf 76=1:=by kernel_rfl
theorem cFs:Try.prog.cellsOf 38=1:=by kernel_rfl
theorem cIs:Try.prog.cellsOf 23=1:=by kernel_rfl
theorem cE:Try.prog.cellsOf 47=3:=by kernel_rfl
theorem cC:Try.prog.cellsOf 120=12:=by kernel_rfl
theorem cF:Try.prog.cellsOf 78=6:=by kernel_rfl
theorem cT:Try.prog.cellsOf 40=1:=by kernel_rfl
section
variable {H:Type}{enc:TypeId×Value→H}{W:World}
set_option maxRecDepth 100000 in
theorem b6s:∀(fuel:Nat) (cs:List Value) (y:DataW H×List MemPlace),DataW.trod enc Try.prog W 0 (fun _=>true) true fuel 47 cs=some y→∃q,PER W q cs:=by
 intro fuel;induction fuel using Nat.strongRecOn with
 | _ fuel ih =>
  intro cs y h;obtain⟨hl,n,hn,hg⟩:=b3O Try.underlying47 h;rw[cE] at hl;have h0:∃y',DataW.trod enc Try.prog W 0 (fun _=>true) true n 3 ((cs.drop 0).take (Try.prog.cellsOf 3))=some y':=hg 0 _ rfl;rw[b2u] at h0;obtain⟨y0,h0⟩:=h0;have h1:∃y',DataW.trod enc Try.prog W 0 (fun _=>true) true n 3 ((cs.drop 1).take (Try.prog.cellsOf 3))=some y':=hg 1 _ rfl;rw[b2u] at h1;obtain⟨y1,h1⟩:=h1;have h2:∃y',DataW.trod enc Try.prog W 0 (fun _=>true) true n 45 ((cs.drop 2).take (Try.prog.cellsOf 45))=some y':=hg 2 _ rfl;rw[cEs] at h2;obtain⟨y2,h2⟩:=h2
  match cs,hl with
  | [c0,c1,c2],_ =>
   obtain⟨k0,e0,-,-⟩:=DataW.trod_int Try.underlying3 h0;obtain⟨k1,e1,-,-⟩:=DataW.trod_int Try.underlying3 h1;obtain⟨v,xs,e2,hsl⟩:=b3N (r:=peR) Try.underlying45 cE (by decide) (fun m hm cs y _ h=>ih m (by omega) cs y h) h2;have f0:c0=.int .i64 k0:=by simpa using e0
   have f1:c1=.int .i64 k1:=by simpa using e1
   have f2:c2=v:=by simpa using e2
   subst f0 f1 f2;exact⟨.mk k0 k1 xs,PER.shut hsl⟩
set_option maxRecDepth 100000 in
theorem c3A:∀(fuel:Nat) (cs:List Value) (y:DataW H×List MemPlace),DataW.trod enc Try.prog W 0 (fun _=>true) true fuel 120 cs=some y→∃q,PCR W q cs:=by
 intro fuel;induction fuel using Nat.strongRecOn with
 | _ fuel ih =>
  intro cs y h;obtain⟨hl,n,hn,hg⟩:=b3O Try.underlying120 h;rw[cC] at hl;have h0:∃y',DataW.trod enc Try.prog W 0 (fun _=>true) true n 3 ((cs.drop 0).take (Try.prog.cellsOf 3))=some y':=hg 0 _ rfl;rw[b2u] at h0;obtain⟨y0,h0⟩:=h0;have h1:∃y',DataW.trod enc Try.prog W 0 (fun _=>true) true n 3 ((cs.drop 1).take (Try.prog.cellsOf 3))=some y':=hg 1 _ rfl;rw[b2u] at h1;obtain⟨y1,h1⟩:=h1;have h2:∃y',DataW.trod enc Try.prog W 0 (fun _=>true) true n 3 ((cs.drop 2).take (Try.prog.cellsOf 3))=some y':=hg 2 _ rfl;rw[b2u] at h2;obtain⟨y2,h2⟩:=h2;have h3:∃y',DataW.trod enc Try.prog W 0 (fun _=>true) true n 47 ((cs.drop 3).take (Try.prog.cellsOf 47))=some y':=hg 3 _ rfl;rw[cE] at h3;obtain⟨y3,h3⟩:=h3;have h4:∃y',DataW.trod enc Try.prog W 0 (fun _=>true) true n 47 ((cs.drop 6).take (Try.prog.cellsOf 47))=some y':=hg 4 _ rfl;rw[cE] at h4;obtain⟨y4,h4⟩:=h4;have h5:∃y',DataW.trod enc Try.prog W 0 (fun _=>true) true n 45 ((cs.drop 9).take (Try.prog.cellsOf 45))=some y':=hg 5 _ rfl;rw[cEs] at h5;obtain⟨y5,h5⟩:=h5;have h6:∃y',DataW.trod enc Try.prog W 0 (fun _=>true) true n 76 ((cs.drop 10).take (Try.prog.cellsOf 76))=some y':=hg 6 _ rfl;rw[cCs] at h6;obtain⟨y6,h6⟩:=h6;have h7:∃y',DataW.trod enc Try.prog W 0 (fun _=>true) true n 76 ((cs.drop 11).take (Try.prog.cellsOf 76))=some y':=hg 7 _ rfl;rw[cCs] at h7;obtain⟨y7,h7⟩:=h7
  match cs,hl with
  | [c0,c1,c2,i0,i1,i2,x0,x1,x2,ca,ct,ce],_ =>
   obtain⟨k0,e0,-,-⟩:=DataW.trod_int Try.underlying3 h0;obtain⟨k1,e1,-,-⟩:=DataW.trod_int Try.underlying3 h1;obtain⟨k2,e2,-,-⟩:=DataW.trod_int Try.underlying3 h2;obtain⟨i,hi⟩:=b6s n _ _ h3;obtain⟨e,he⟩:=b6s n _ _ h4;obtain⟨va,args,e5,hsa⟩:=b3N (r:=peR) Try.underlying45 cE (by decide) (fun m hm cs y _ h=>b6s m cs y h) h5;obtain⟨vt,thn,e6,hst⟩:=b3N (r:=pcR) Try.underlying76 cC (by decide) (fun m hm cs y _ h=>ih m (by omega) cs y h) h6;obtain⟨vs,els,e7,hsl⟩:=b3N (r:=pcR) Try.underlying76 cC (by decide) (fun m hm cs y _ h=>ih m (by omega) cs y h) h7;have f0:c0=.int .i64 k0:=by simpa using e0
   have f1:c1=.int .i64 k1:=by simpa using e1
   have f2:c2=.int .i64 k2:=by simpa using e2
   have f6:ca=va:=by simpa using e5
   have f7:ct=vt:=by simpa using e6
   have f8:ce=vs:=by simpa using e7
   subst f0 f1 f2 f6 f7 f8;obtain⟨ft,g1,g2⟩:=hst.frame;obtain⟨fe,g3,g4⟩:=hsl.frame;exact⟨.mk k0 k1 k2 i e args thn els,.mk k0 k1 k2 i e args thn els [i0,i1,i2] [x0,x1,x2] ca ct ce ft fe hi he hsa g1 g2 g3 g4⟩
set_option maxRecDepth 100000 in
theorem c3B(fuel:Nat)(cs:List Value)(y:DataW H×List MemPlace)(h:DataW.trod enc Try.prog W 0 (fun _=>true) true fuel 78 cs=some y):∃q,PFR W q cs:=by
 obtain⟨hl,n,hn,hg⟩:=b3O Try.underlying78 h;rw[cF] at hl;have h0:∃y',DataW.trod enc Try.prog W 0 (fun _=>true) true n 3 ((cs.drop 0).take (Try.prog.cellsOf 3))=some y':=hg 0 _ rfl;rw[b2u] at h0;obtain⟨y0,h0⟩:=h0;have h1:∃y',DataW.trod enc Try.prog W 0 (fun _=>true) true n 23 ((cs.drop 1).take (Try.prog.cellsOf 23))=some y':=hg 1 _ rfl;rw[cIs] at h1;obtain⟨y1,h1⟩:=h1;have h2:∃y',DataW.trod enc Try.prog W 0 (fun _=>true) true n 76 ((cs.drop 2).take (Try.prog.cellsOf 76))=some y':=hg 2 _ rfl;rw[cCs] at h2;obtain⟨y2,h2⟩:=h2;have h3:∃y',DataW.trod enc Try.prog W 0 (fun _=>true) true n 47 ((cs.drop 3).take (Try.prog.cellsOf 47))=some y':=hg 3 _ rfl;rw[cE] at h3;obtain⟨y3,h3⟩:=h3
 match cs,hl with
 | [c0,cz,cc,r0,r1,r2],_ =>
  obtain⟨k0,e0,-,-⟩:=DataW.trod_int Try.underlying3 h0
  obtain⟨vz,sizes,e1,hsz⟩:=b3N (r:=b2l) Try.underlying23 b2u (by decide) (fun m hm cs y _ h=>by
   obtain⟨k,hk,-,-⟩:=DataW.trod_int Try.underlying3 h;exact⟨k,hk⟩) h1
  obtain⟨vc,cmds,e2,hsc⟩:=b3N (r:=pcR) Try.underlying76 cC (by decide) (fun m hm cs y _ h=>c3A m cs y h) h2;obtain⟨e,he⟩:=b6s n _ _ h3;have f0:c0=.int .i64 k0:=by simpa using e0
  have f1:cz=vz:=by simpa using e1
  have f2:cc=vc:=by simpa using e2
  subst f0 f1 f2;obtain⟨ek,en,eargs⟩:=e;obtain⟨vr,hr,hsr⟩:=PER.opened he;have hr2:[r0,r1,r2]=[.int .i64 ek,.int .i64 en,vr]:=hr;injection hr2 with g0 hr2;injection hr2 with g1 hr2;injection hr2 with g2 hr2;subst g0 g1 g2;exact⟨⟨k0,sizes,cmds,.mk ek en eargs⟩,cz,cc,r2,rfl,hsz,hsc,hsr⟩
set_option maxRecDepth 100000 in
theorem c1q{r:Go.Reach}{base:Nat}{v:Value}{d:DataW H}{p:List MemPlace}(hv:Value.okWide Try.prog W r base 40 v)
  (h:DataW.Trod enc Try.prog W 0 (fun _=>true) true 40 v d p):∃l u,v=.agg #[u]∧Sl pfR W u l:=by
 obtain⟨cs,rfl,_⟩:=okWide_struct Try.underlying40 hv;obtain⟨fuel,hf⟩:=h;obtain⟨hl,n,hn,hg⟩:=b3O Try.underlying40 hf;rw[cT] at hl;have h0:∃y',DataW.trod enc Try.prog W 0 (fun _=>true) true n 38 (((Value.agg cs).cells.toList.drop 0).take (Try.prog.cellsOf 38))=some y':=hg 0 _ rfl;rw[cFs] at h0;obtain⟨y0,h0⟩:=h0;obtain⟨u,l,e0,hsl⟩:=b3N (r:=pfR) Try.underlying38 cF (by decide) (fun m hm cs y _ h=>c3B m cs y h) h0;refine⟨l,u,?_,hsl⟩
 have hc:(Value.agg cs).cells.toList=[u]:=by
  have h1:((Value.agg cs).cells.toList.drop 0).take 1=[u]:=e0;rw[List.drop_zero,List.take_of_length_le (by rw[hl];exact Nat.le_refl _)] at h1;exact h1
 have h2:(Value.agg cs).cells=#[u]:=by rw[←Array.toArray_toList (xs:=(Value.agg cs).cells),hc]
 have h3:cs=#[u]:=h2;rw[h3]
end
end Go.Proofs.Ytgkpplbomciehaa
namespace Go.Proofs.Ytgkpplbomciehaa
open Go.ChangeShapes Go.WideShapes Go.ChangeAt Go.RowKit
set_option maxRecDepth 100000 in
theorem b5q(H:Type)(enc:TypeId×Value→H)(W:World)(base:Nat)(args:Array Value)(ds gs:List (DataW H))(before:List MemPlace)
  (hval:∀(j:Nat) t v,Try.f9.params[j]? = some t→args[j]? = some v→Value.okWide Try.prog W .any base t v)
  (hW:DataW.Whole enc Try.prog Try.f9.params.toList Rows.stateTellsSpec.vars false W args.toList ds gs before)
  (hsz:(DataW.weightsEach Try.prog (Try.f9.params.toList++Rows.stateTellsSpec.plain.varTypes Try.prog) (ds++gs)).all (·≤reachBytes)=true) :
  Calls Try.prog 9 args W fun e W'=>∃v,e=.returned v∧Rows.stateTellsSpec.post enc Try.prog Try.f9 false true false false W args v W':=by
 have hW':=hW;obtain⟨p,q,hA,hV,rfl,_,_⟩:=hW;rw[Try.params9] at hA hval hsz;obtain⟨v0,vs0,d0,ds0,p0,q0,hargs,rfl,rfl,h0,r0⟩:=trodAll_cons hA;obtain⟨v1,vs1,d1,ds1,p1,q1,rfl,rfl,rfl,h1,r1⟩:=trodAll_cons r0;obtain⟨v2,vs2,d2,ds2,p2,q2,rfl,rfl,rfl,h2,r2⟩:=trodAll_cons r1;obtain⟨v3,vs3,d3,ds3,p3,q3,rfl,rfl,rfl,h3,r3⟩:=trodAll_cons r2;obtain⟨v4,vs4,d4,ds4,p4,q4,rfl,rfl,rfl,h4,r4⟩:=trodAll_cons r3;obtain⟨rfl,rfl,rfl⟩:=trodAll_nil r4;obtain rfl:args=#[v0,v1,v2,v3,v4]:=by cases args;simp_all
 obtain⟨rfl,rfl⟩:=trodVars_none hV;obtain⟨x0,u0,rfl,hs0⟩:=c1q (hval 0 40 v0 rfl rfl) h0;obtain⟨x1,hs1,ho1,hd1⟩:=c1p (okWide_slice Try.underlying27 (hval 1 27 v1 rfl rfl)) h1;have hlen1:=c0M hsz (j:=1) rfl rfl hd1;obtain⟨x2,rfl,rfl,rfl,w2⟩:=open_int Try.underlying3 (hval 2 3 v2 rfl rfl) h2;obtain⟨x3,rfl,rfl,rfl,w3⟩:=open_int Try.underlying3 (hval 3 3 v3 rfl rfl) h3;obtain⟨x4,rfl,rfl,rfl,w4⟩:=open_int Try.underlying3 (hval 4 3 v4 rfl rfl) h4;refine(b9n x0 x1 x2 x3 x4 u0 v1 W hs0 hs1).mono fun e W' ⟨he,hb⟩=>?_;subst he;refine⟨_,rfl,c1i rfl rfl Try.underlying4 c1h ?_ hW' rfl hb⟩;rw[Try.params9];intro t ht;simp only[List.mem_cons,List.not_mem_nil,or_false] at ht;rcases ht with rfl | rfl | rfl | rfl | rfl<;>exact⟨by kernel_rfl,of_decide_eq_true (by kernel_rfl)⟩
set_option maxRecDepth 100000 in
theorem b4n(os:Os)(started:os.Started)(H:Type)(enc:TypeId×Value→H) :
  ReturnsInHanded {} Try.checked os 9 .any (Rows.stateTellsSpec.pre6 enc Try.prog Try.f9 Rows.stateTellsRow.domain false) (Rows.stateTellsSpec.post enc Try.prog Try.f9 false true false false):=by
 refine returnsInHanded_of_change_sized (C:=Try.checked) ownK started (by kernel_rfl) Try.func9
  (ChangeSpec.witness6 (enc:=enc) (C:=Try.checked) false ⟨#[],#[.agg #[.slice none 0 0],.slice none 0 0,.int .i64 0,.int .i64 0,.int .i64 0],[]⟩ 8 (by kernel_rfl) (by kernel_rfl) (by kernel_rfl) (by kernel_rfl)) ?_
 intro W base args ds gs before hval hW _ hsz _;exact b5q H enc W base args ds gs before hval hW hsz
theorem stateTells_holds:Rows.StateTellsSaid:=
 OpenClaim.holds_of_wide 9 Try.f9 rfl rfl rfl rfl rfl rfl rfl ⟨rfl,rfl,rfl,rfl,rfl⟩ rfl rfl rfl rfl rfl (by kernel_rfl) Try.func9 (by kernel_rfl)
  (of_decide_eq_true (by kernel_rfl)) (by unfold Func.isWrapper;first | (rw[if_pos (by decide +kernel)];kernel_rfl) | (rw[if_neg (by decide +kernel)];exact⟨rfl,rfl⟩))
  (fun os started H enc _=>b4n os started H enc)
end Go.Proofs.Ytgkpplbomciehaa
