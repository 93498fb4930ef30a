/- Frames, histories and calls, as the document tells them: a plain law. Each lemma states its own conditions. -/
import Derived.Test.YtgkpplbomciehaaStt44
namespace Go.Proofs.Ytgkpplbomciehaa
open Go.RowKit
def b2k(ps:List PF)(es:List Ev):List Int:=((ps.length:Int)-1)::(es.filter fun e=>e.kind==5).map Ev.var
theorem b3F(ps:List PF)(es:List Ev)(e:Ev):b2k ps (es++[e])=if e.kind=5 then b2k ps es++[e.var] else b2k ps es:=by
 unfold b2k;rw[List.filter_append];split
 ·rename_i h;rw[List.filter_cons_of_pos (by simp[h])];simp
 ·rename_i h;rw[List.filter_cons_of_neg (by simp[h])];simp
theorem b8n(ps:List PF)(es fs:List Ev):∃r,b2k ps (es++fs)=b2k ps es++r:=⟨(fs.filter fun e=>e.kind==5).map Ev.var,by unfold b2k;simp⟩
def b2X(n:Int)(es:List Ev):Bool:=es.any fun e=>e.frame==n && e.kind==6
theorem b3p(n:Int)(es:List Ev)(e:Ev):b2X n (es++[e])=(b2X n es || (e.frame==n && e.kind==6)):=by unfold b2X;simp
def b7y(n:Int)(vs:List (List Int))(e:Ev):List (List Int):=if e.frame=n∧e.kind=2 then b2c vs e.var e.index e.value else vs
def b2s(ps:List PF)(fn n:Int)(es:List Ev):List (List Int):=es.foldl (b7y n) (b0c (ps.getD fn.toNat noF).sizes)
theorem b1x(ps:List PF)(fn n:Int)(es:List Ev)(e:Ev):b2s ps fn n (es++[e])=b7y n (b2s ps fn n es) e:=by unfold b2s;rw[List.foldl_append];rfl
theorem b7k{n:Int}:∀{es:List Ev} {vs:List (List Int)},(∀e∈es,e.frame≠n)→es.foldl (b7y n) vs=vs
 | [],_,_=>rfl
 | e::es,vs,h=>by
  rw[List.foldl_cons,show b7y n vs e=vs by unfold b7y;rw[if_neg (fun h'=>h e (by simp) h'.1)]];exact b7k fun x hx=>h x (by simp[hx])
structure FInv(ps:List PF)(es:List Ev)(s:Rp):Prop where
 fns:s.fns=b2k ps es
 nums:s.frs.map Fm.num=((List.range s.fns.length).filter fun n:Nat=>!b2X n es).map Int.ofNat
 fr:∀f∈s.frs,s.fns[f.num.toNat]? = some f.fn∧f.vars=b2s ps f.fn f.num es
 lt:∀e∈es,0≤e.frame∧e.frame<s.fns.length
theorem FInv.start(ps:List PF):FInv ps [] (Rp.start ps):=by
 refine⟨rfl,rfl,fun f hf=>?_,fun e he=>by simp at he⟩;obtain rfl:f=_:=by simpa[Rp.start] using hf
 refine⟨rfl,?_⟩;unfold b2s;rw[List.foldl_nil,show((ps.length:Int)-1).toNat=ps.length-1 by omega];simp only[List.getD_eq_getElem?_getD]
section
variable {ps:List PF}{es:List Ev}{s:Rp}{e:Ev}
theorem FInv.nd(h:FInv ps es s):(s.frs.map Fm.num).Nodup:=by
 rw[h.nums];exact List.Pairwise.map _ (fun a b hab h'=>hab (by injection h')) ((List.nodup_range).filter _)
theorem FInv.step(hf:Fit ps s e)(h:FInv ps es s):FInv ps (es++[e]) (s.ev ps e):=by
 obtain⟨F5,F6,F2,F0⟩:=hf;have hnd:=h.nd;by_cases k5:e.kind=5
 ·obtain⟨hnum,v0,v1,-⟩:=F5 k5;have hs:s.ev ps e=⟨s.frs++[⟨e.value,e.var,b0c (ps.getD e.var.toNat noF).sizes⟩],s.fns++[e.var]⟩:=by unfold Rp.ev;rw[if_pos k5]
  have ho:∀n,b2X n (es++[e])=b2X n es:=fun n=>by rw[b3p];simp[k5]
  have hv:∀fn n,b2s ps fn n (es++[e])=b2s ps fn n es:=fun fn n=>by rw[b1x];unfold b7y;rw[if_neg (by omega)]
  rw[hs];refine⟨?_,?_,fun f hf=>?_,fun x hx=>?_⟩
  ·rw[b3F,if_pos k5,←h.fns]
  ·simp only[ho]
   have hl:b2X (s.fns.length:Int) es=false:=by
    unfold b2X;rw[List.any_eq_false];intro x hx;have:=h.lt x hx;simp only[Bool.and_eq_true,beq_iff_eq,not_and];omega
   rw[List.map_append,h.nums,List.length_append,List.length_singleton,List.range_succ,List.filter_append,List.map_append,List.filter_cons_of_pos (by rw[hl];rfl)];simp[hnum]
  ·rw[hv];rcases List.mem_append.1 hf with hf | hf
   ·obtain⟨h1,h2⟩:=h.fr f hf;exact⟨by dsimp only;rw[List.getElem?_append_left (List.getElem?_eq_some_iff.1 h1).1];exact h1,h2⟩
   ·obtain rfl:=List.mem_singleton.1 hf;dsimp only;refine⟨by rw[hnum,show((s.fns.length:Nat):Int).toNat=s.fns.length by omega];simp,?_⟩;unfold b2s;rw[b7k fun x hx=>by have:=h.lt x hx;omega]
  ·dsimp only;rw[List.length_append,List.length_singleton];rcases List.mem_append.1 hx with hx | hx
   ·have:=h.lt x hx;omega
   ·obtain rfl:x=e:=by simpa using hx
    omega
 by_cases k6:e.kind=6
 ·obtain⟨-,g,hg,hgn⟩:=F6 k6;have hs:s.ev ps e=⟨s.frs.dropLast,s.fns⟩:=by unfold Rp.ev;rw[if_neg k5,if_pos k6]
  have hv:∀fn n,b2s ps fn n (es++[e])=b2s ps fn n es:=fun fn n=>by rw[b1x];unfold b7y;rw[if_neg (by omega)]
  rw[hs];refine⟨?_,?_,fun f hf=>?_,fun x hx=>?_⟩
  ·rw[b3F,if_neg k5];exact h.fns
  ·have h1:(List.range s.fns.length).filter (fun n:Nat=>!b2X (n:Int) (es++[e]))=((List.range s.fns.length).filter fun n:Nat=>!b2X (n:Int) es).filter fun n:Nat=>!(e.frame==(n:Int)):=by
    rw[List.filter_filter];refine List.filter_congr fun n _=>?_;rw[b3p,k6];cases b2X (n:Int) es<;>cases(e.frame==(n:Int))<;>rfl
   dsimp only;rw[h1];have h2:=h.nums;have hLn:((List.range s.fns.length).filter fun n:Nat=>!b2X (n:Int) es).Nodup:=(List.nodup_range).filter _;generalize((List.range s.fns.length).filter fun n:Nat=>!b2X (n:Int) es)=L at *
   obtain⟨ys,hys⟩:∃ys,s.frs=ys++[g]:=by
    rw[List.getLast?_eq_some_iff] at hg;exact hg
   have h3:=congrArg List.getLast? h2;rw[List.getLast?_map,List.getLast?_map,hg,Option.map_some] at h3;obtain⟨a,ha,hag⟩:=Option.map_eq_some_iff.1 h3.symm
   obtain⟨zs,hzs⟩:∃zs,L=zs++[a]:=by
    rw[List.getLast?_eq_some_iff] at ha;exact ha
   subst hzs;rw[List.nodup_append] at hLn;have hae:(a:Int)=e.frame:=by rw[←hgn,←hag];rfl
   rw[List.filter_append,List.filter_eq_self.2 (fun n hn=>by
    have:=hLn.2.2 n hn a (by simp);simp only[Bool.not_eq_true',beq_eq_false_iff_ne];omega),List.filter_cons_of_neg (by simp[hae]),List.filter_nil,List.append_nil]
   have h4:=congrArg List.dropLast h2;rw[List.map_append,List.map_singleton,List.dropLast_concat] at h4;rw[←h4,List.map_dropLast]
  ·rw[hv];exact h.fr f ((List.dropLast_sublist _).subset hf)
  ·dsimp only;rcases List.mem_append.1 hx with hx | hx
   ·exact h.lt x hx
   ·obtain rfl:x=e:=by simpa using hx
    exact F0
 have ho:∀n,b2X n (es++[e])=b2X n es:=fun n=>by rw[b3p];simp[k6]
 have hfn:b2k ps (es++[e])=b2k ps es:=by rw[b3F,if_neg k5]
 have hlt:∀x∈es++[e],0≤x.frame∧x.frame<s.fns.length:=fun x hx=>by
  rcases List.mem_append.1 hx with hx | hx
  ·exact h.lt x hx
  ·obtain rfl:x=e:=by simpa using hx
   exact F0
 by_cases k2:e.kind=2
 ·obtain⟨f,L,hl,hn,v0,hv,i0,i1⟩:=F2 k2
  have hse:s.ev ps e=⟨s.frs.dropLast++[{ f with vars:=b2c f.vars e.var e.index e.value }],s.fns⟩:=by
   unfold Rp.ev;rw[if_neg k5,if_neg k6,if_pos k2,hl]
  obtain⟨ys,hys⟩:∃ys,s.frs=ys++[f]:=by
   rw[List.getLast?_eq_some_iff] at hl;exact hl
  have hd:s.frs.dropLast=ys:=by rw[hys,List.dropLast_concat]
  rw[hd] at hse;have hfm:f∈s.frs:=by rw[hys];simp
  rw[hse];refine⟨by rw[hfn];exact h.fns,?_,fun g hg=>?_,hlt⟩
  ·simp only[ho];rw[←h.nums,hys];simp
  ·rcases List.mem_append.1 hg with hg | hg
   ·obtain⟨h1,h2⟩:=h.fr g (by rw[hys];simp[hg]);refine⟨h1,?_⟩;rw[b1x];unfold b7y;rw[hys,List.map_append,List.nodup_append] at hnd;rw[if_neg (fun hh=>hnd.2.2 g.num (List.mem_map_of_mem hg) f.num (by simp) (by omega))];exact h2
   ·obtain rfl:g=_:=by simpa using hg
    obtain⟨h1,h2⟩:=h.fr f hfm;refine⟨h1,?_⟩;dsimp only;rw[b1x];unfold b7y;rw[if_pos ⟨hn.symm,k2⟩,←h2]
 ·have hse:s.ev ps e=s:=by unfold Rp.ev;rw[if_neg k5,if_neg k6,if_neg k2]
  rw[hse];refine⟨by rw[hfn];exact h.fns,by simp only[ho];exact h.nums,fun g hg=>?_,hlt⟩;obtain⟨h1,h2⟩:=h.fr g hg;refine⟨h1,?_⟩;rw[b1x];unfold b7y;rw[if_neg (fun h=>k2 h.2)];exact h2
end
theorem FInv.all{ps:List PF}{l:List Ev}(hf:b2V ps l (Rp.start ps)):∀j,j≤l.length→FInv ps (l.take j) (Rp.evs ps (l.take j) (Rp.start ps))
 | 0,_=>FInv.start ps
 | j+1,hj=>by
  obtain⟨e,he⟩:∃e,l[j]? = some e:=⟨_,List.getElem?_eq_getElem (by omega)⟩;rw[b4L he,b0z he];exact FInv.step (b3b hf he) (FInv.all hf j (by omega))
def b9T(ps:List PF)(es:List Ev)(n:Int):Fm:=⟨n,(b2k ps es).getD n.toNat 0,b2s ps ((b2k ps es).getD n.toNat 0) n es⟩
def b6j(ps:List PF)(es:List Ev):List Fm:=((List.range (b2k ps es).length).filter fun n:Nat=>!b2X n es).map fun n:Nat=>b9T ps es n
theorem FInv.frames{ps:List PF}{es:List Ev}{s:Rp}(h:FInv ps es s):s.frs=b6j ps es:=by
 have h1:s.frs=s.frs.map fun f=>b9T ps es f.num:=by
  conv=>lhs;rw[←List.map_id s.frs]
  refine List.map_congr_left fun f hf=>?_;obtain⟨h1,h2⟩:=h.fr f hf;rw[h.fns] at h1;unfold b9T;rw[b1A h1,←h2];rfl
 rw[h1,show(fun f:Fm=>b9T ps es f.num)=(b9T ps es) ∘ Fm.num from rfl,←List.map_map,h.nums,h.fns,List.map_map];rfl
theorem b8J{ps:List PF}{l:List Ev}{T:Int}(ha:atE ps l T=0):c0U ps l T=b6j ps (l.take T.toNat):=by
 obtain⟨hs,t0,t1⟩:=c2Q ha;obtain⟨hp,hr,-⟩:=b3h hs;exact(FInv.all (b2C.fits hp hr) T.toNat (by omega)).frames
theorem b9E{ps:List PF}{l:List Ev}(hf:b2V ps l (Rp.start ps)){t:Nat}{e:Ev}(he:l[t]? = some e)(k2:e.kind=2){m:Nat}(hm:t<m)(_hml:m≤l.length) :
  0≤e.frame∧e.frame<(b2k ps (l.take m)).length∧0≤e.var∧0≤e.index∧∃L,(b2s ps ((b2k ps (l.take m)).getD e.frame.toNat 0) e.frame (l.take t))[e.var.toNat]? = some L∧e.index<L.length:=by
 have ht:t<l.length:=(List.getElem?_eq_some_iff.1 he).1;have hI:=FInv.all hf t (by omega);obtain⟨-,-,F2,F0⟩:=b3b hf he;obtain⟨f,L,hl,hn,v0,hv,i0,i1⟩:=F2 k2;obtain⟨h1,h2⟩:=hI.fr f (List.mem_of_getLast? hl);obtain⟨r,hr⟩:=b8n ps (l.take t) ((l.take m).drop t)
 have htm:l.take m=l.take t++(l.take m).drop t:=by
  conv=>lhs;rw[←List.take_append_drop t (l.take m)]
  rw[List.take_take,Nat.min_eq_left (by omega)]
 rw[←htm] at hr;rw[hI.fns] at h1 F0;have hlt:=(List.getElem?_eq_some_iff.1 h1).1;have hg:(b2k ps (l.take m))[e.frame.toNat]? = some f.fn:=by rw[hr,←hn,List.getElem?_append_left hlt];exact h1
 refine⟨F0.1,?_,v0,i0,L,?_,i1⟩
 ·have:=(List.getElem?_eq_some_iff.1 hg).1;omega
 ·rw[b1A hg,←hn,←h2];exact hv
def b2q(ps:List PF)(l:List Ev)(fn v:Int):Nat→List Hv
 | 0=>[]
 | j+1=>b2q ps l fn v j++(match l[j]? with
  | some e=>if e.kind=2∧e.var=v∧(b2k ps l).getD e.frame.toNat 0=fn then[⟨j,e.frame,e.index,e.value⟩] else[]
  | none=>[])
theorem b8o{ps:List PF}{l:List Ev}(hf:b2V ps l (Rp.start ps)){t:Nat}{e:Ev}(he:l[t]? = some e):0≤e.frame∧e.frame<(b2k ps l).length∧(Rp.evs ps (l.take (t+1)) (Rp.start ps)).fns[e.frame.toNat]? = (b2k ps l)[e.frame.toNat]?:=by
 have ht:t<l.length:=(List.getElem?_eq_some_iff.1 he).1;have hI:=FInv.all hf (t+1) (by omega);obtain⟨r,hr⟩:=b8n ps (l.take (t+1)) (l.drop (t+1));rw[List.take_append_drop] at hr;have h0:=hI.lt e (by rw[b0z he];simp);rw[hI.fns] at h0 ⊢;refine⟨h0.1,by rw[hr,List.length_append];omega,?_⟩;rw[hr,List.getElem?_append_left (by omega)]
theorem b7a{ps:List PF}{l:List Ev}(hf:b2V ps l (Rp.start ps))(fn v:Int):∀j,b2H ps l fn v j=b2q ps l fn v j
 | 0=>rfl
 | j+1=>by
  rw[b2H,b2q,b7a hf fn v j];cases he:l[j]? with
  | none=>rfl
  | some e =>
   obtain⟨h0,h1,h2⟩:=b8o hf he;obtain⟨z,hz⟩:∃z,(b2k ps l)[e.frame.toNat]? = some z:=⟨_,List.getElem?_eq_getElem (by omega)⟩;dsimp only;unfold b5e;rw[h2,hz,b1A hz];simp only[Option.some.injEq]
def b8i(n:Int)(u:Nat)(x:Int×Int)(e:Ev):Int×Int:=if e.kind=6∧e.frame=n then(u,e.value) else x
def b1g(l:List Ev)(n:Int)(t:Nat):Nat→Int×Int
 | 0=>(-1,0)
 | k+1=>match l[t+k]? with
  | some e=>b8i n (t+k) (b1g l n t k) e
  | none=>b1g l n t k
theorem b1h{l:List Ev}{n:Int}{t j:Nat}{e:Ev}(h:t≤j)(he:l[j]? = some e):b1g l n t (j+1-t)=b8i n j (b1g l n t (j-t)) e:=by
 rw[show j+1-t=j-t+1 by omega,b1g,show t+(j-t)=j by omega,he]
def b1l(l:List Ev)(out:List Spn)(t:Nat)(e:Ev):List Spn:=
 let o:=if e.kind=5 then out++[⟨e.value,e.var,e.frame,t,(b1g l e.value t (l.length-t)).1,(b1g l e.value t (l.length-t)).2⟩] else out
 if e.kind=7∧e.value=0 then o.set 0 { o.getD 0 c2x with to_:=t } else o
def b0y(ps:List PF)(l:List Ev):Nat→List Spn
 | 0=>[⟨0,(ps.length:Int)-1,-1,0,-1,0⟩]
 | j+1=>match l[j]? with
  | some e=>b1l l (b0y ps l j) j e
  | none=>b0y ps l j
theorem b2o{ps:List PF}{l:List Ev}{j:Nat}{e:Ev}(h:l[j]? = some e):b0y ps l (j+1)=b1l l (b0y ps l j) j e:=by
 rw[b0y,h]
structure EInv(l:List Ev)(C D:List Spn)(j:Nat):Prop where
 len:D.length=C.length
 zero:D[0]? = C[0]?
 el:∀(i:Nat) x,0<i→C[i]? = some x→∃f:Nat,x.from_=f∧f≤j∧x.to_=(b1g l i f (j-f)).1∧x.answer=(b1g l i f (j-f)).2∧D[i]? = some { x with to_:=(b1g l i f (l.length-f)).1,answer:=(b1g l i f (l.length-f)).2 }
theorem EInv.step{ps:List PF}{l:List Ev}{C D:List Spn}{s:Rp}{j:Nat}{e:Ev}(he:l[j]? = some e)(hf:Fit ps s e)(hc:CInv C s j)(h:EInv l C D j):EInv l (b1f C j e) (b1l l D j e) (j+1):=by
 obtain⟨F5,F6,F2,F0⟩:=hf;have hpos:=hc.pos;obtain⟨hlen,hzero,hel⟩:=h;by_cases k5:e.kind=5
 ·obtain⟨hnum,v0,v1,-⟩:=F5 k5;have e1:b1f C j e=C++[⟨e.value,e.var,e.frame,j,-1,0⟩]:=by unfold b1f;rw[if_pos k5]
  have e2:b1l l D j e=D++[⟨e.value,e.var,e.frame,j,(b1g l e.value j (l.length-j)).1,(b1g l e.value j (l.length-j)).2⟩]:=by unfold b1l;rw[if_pos k5,if_neg (by omega)]
  rw[e1,e2];refine⟨by simp[hlen],by rw[List.getElem?_append_left (by omega),List.getElem?_append_left hpos,hzero],fun i x i0 hx=>?_⟩;rw[List.getElem?_append] at hx;split at hx
  ·rename_i hi
   obtain⟨f,f1,f2,f3,f4,f5⟩:=hel i x i0 hx;refine⟨f,f1,by omega,?_,?_,?_⟩
   ·rw[b1h f2 he];unfold b8i;rw[if_neg (by omega)];exact f3
   ·rw[b1h f2 he];unfold b8i;rw[if_neg (by omega)];exact f4
   ·rw[List.getElem?_append_left (by omega)];exact f5
  ·rename_i hi
   have hi0:i-C.length=0:=by
    cases hq:i-C.length with
    | zero=>rfl
    | succ q=>rw[hq] at hx;simp at hx
   rw[hi0] at hx;obtain rfl:_=x:=by simpa using hx
   have hln:=hc.ln;have hie:(i:Int)=e.value:=by omega
   refine⟨j,rfl,by omega,?_,?_,?_⟩
   ·rw[b1h (Nat.le_refl _) he,Nat.sub_self];unfold b8i;rw[if_neg (by omega)];rfl
   ·rw[b1h (Nat.le_refl _) he,Nat.sub_self];unfold b8i;rw[if_neg (by omega)];rfl
   ·rw[List.getElem?_append_right (by omega),show i-D.length=0 by omega,hie];rfl
 by_cases k6:e.kind=6
 ·obtain⟨h2,g,hg,hgn⟩:=F6 k6;obtain⟨x0,hx0,g0,hxg,hto,-⟩:=hc.last h2 hg;rw[hgn] at hx0 g0 hxg;have e1:b1f C j e=C.set e.frame.toNat { x0 with to_:=j,answer:=e.value }:=by unfold b1f;rw[if_neg k5,if_pos k6,b1A hx0]
  have e2:b1l l D j e=D:=by unfold b1l;rw[if_neg k5,if_neg (by omega)]
  rw[e1,e2];refine⟨by simp[hlen],by rw[List.getElem?_set_ne (by omega)];exact hzero,fun i x i0 hx=>?_⟩;rw[List.getElem?_set] at hx;split at hx
  ·rename_i hie
   rw[if_pos (List.getElem?_eq_some_iff.1 hx0).1] at hx;obtain rfl:=Option.some.inj hx;obtain⟨f,f1,f2,f3,f4,f5⟩:=hel i x0 i0 (by rw[←hie];exact hx0);refine⟨f,f1,by omega,?_,?_,f5⟩
   ·rw[b1h f2 he];unfold b8i;rw[if_pos ⟨k6,by omega⟩]
   ·rw[b1h f2 he];unfold b8i;rw[if_pos ⟨k6,by omega⟩]
  ·rename_i hie
   obtain⟨f,f1,f2,f3,f4,f5⟩:=hel i x i0 hx;refine⟨f,f1,by omega,?_,?_,f5⟩
   ·rw[b1h f2 he];unfold b8i;rw[if_neg (by omega)];exact f3
   ·rw[b1h f2 he];unfold b8i;rw[if_neg (by omega)];exact f4
 have hstay:∀(i:Nat) x,0<i→C[i]? = some x→∃f:Nat,x.from_=f∧f≤j+1∧x.to_=(b1g l i f (j+1-f)).1∧x.answer=(b1g l i f (j+1-f)).2∧D[i]? = some { x with to_:=(b1g l i f (l.length-f)).1,answer:=(b1g l i f (l.length-f)).2 }:=fun i x i0 hx=>by
  obtain⟨f,f1,f2,f3,f4,f5⟩:=hel i x i0 hx;refine⟨f,f1,by omega,?_,?_,f5⟩
  ·rw[b1h f2 he];unfold b8i;rw[if_neg (by omega)];exact f3
  ·rw[b1h f2 he];unfold b8i;rw[if_neg (by omega)];exact f4
 by_cases k7:e.kind=7∧e.value=0
 ·have e1:b1f C j e=C.set 0 { C.getD 0 c2x with to_:=j }:=by unfold b1f;rw[if_neg k5,if_neg k6,if_pos k7]
  have e2:b1l l D j e=D.set 0 { D.getD 0 c2x with to_:=j }:=by unfold b1l;rw[if_neg k5,if_pos k7]
  rw[e1,e2];refine⟨by simp[hlen],?_,fun i x i0 hx=>?_⟩
  ·rw[List.getElem?_set,List.getElem?_set,if_pos rfl,if_pos rfl,if_pos (by omega),if_pos hpos,List.getD_eq_getElem?_getD,List.getD_eq_getElem?_getD,hzero]
  ·rw[List.getElem?_set_ne (by omega)] at hx ⊢;exact hstay i x i0 hx
 ·have e1:b1f C j e=C:=by unfold b1f;rw[if_neg k5,if_neg k6,if_neg k7]
  have e2:b1l l D j e=D:=by unfold b1l;rw[if_neg k5,if_neg k7]
  rw[e1,e2];exact⟨hlen,hzero,hstay⟩
theorem EInv.all{ps:List PF}{l:List Ev}(hf:b2V ps l (Rp.start ps)):∀j,j≤l.length→EInv l (b1O ps l j) (b0y ps l j) j
 | 0,_=>⟨rfl,rfl,fun i x i0 hx=>by
  cases i with
  | zero=>omega
  | succ i=>simp[b1O] at hx⟩
 | j+1,hj=>by
  obtain⟨e,he⟩:∃e,l[j]? = some e:=⟨_,List.getElem?_eq_getElem (by omega)⟩;rw[b2t he,b2o he];exact EInv.step he (b3b hf he) (CInv.all hf j (by omega)) (EInv.all hf j (by omega))
theorem b9J{ps:List PF}{l:List Ev}(hf:b2V ps l (Rp.start ps)):b1O ps l l.length=b0y ps l l.length:=by
 obtain⟨h1,h2,h3⟩:=EInv.all hf l.length (Nat.le_refl _);refine List.ext_getElem? fun i=>?_;cases i with
 | zero=>exact h2.symm
 | succ i =>
  cases hx:(b1O ps l l.length)[i+1]? with
  | none=>exact(List.getElem?_eq_none (by rw[h1];exact List.getElem?_eq_none_iff.1 hx)).symm
  | some x =>
   obtain⟨f,f1,f2,f3,f4,f5⟩:=h3 (i+1) x (by omega) hx;rw[f5,←f3,←f4]
end Go.Proofs.Ytgkpplbomciehaa
