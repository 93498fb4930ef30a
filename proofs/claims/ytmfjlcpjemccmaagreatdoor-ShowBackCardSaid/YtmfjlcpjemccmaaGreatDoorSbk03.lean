/- Trees in plain words: how great they are, what is wrong with them, their texts. Each lemma states its own conditions. -/
import Derived.Test.YtmfjlcpjemccmaaGreatDoorSbk02
namespace Go.Proofs.YtmfjlcpjemccmaaGreatDoor
set_option maxRecDepth 20000
set_option maxHeartbeats 1000000
open Go.RowKit
mutual
def TE.size:TE→Int→Int
 | .mk _ _ _ _ args,m=>b2t args 1 m
def b2t:List TE→Int→Int→Int
 | [],a,_=>a
 | x::xs,a,m=>if m<a then a else b2t xs (a+x.size (m-a)) m
end
theorem c5b{xs:List TE}(h:∀x∈xs,∀m,0≤m→1≤x.size m∧x.size m≤m+1):∀a m,1≤a→a≤m+1→1≤b2t xs a m∧b2t xs a m≤m+1:=by
 induction xs with
 | nil=>intro a m h1 h2;rw[b2t];exact⟨h1,h2⟩
 | cons x xs ih =>
  intro a m h1 h2;rw[b2t];split
  ·exact⟨h1,h2⟩
  ·obtain⟨h3,h4⟩:=h x (by simp) (m-a) (by omega);exact ih (fun y hy=>h y (by simp[hy])) _ _ (by omega) (by omega)
theorem TE.size_le:∀q:TE,∀m,0≤m→1≤q.size m∧q.size m≤m+1:=
 TE.ind fun k a n s args ih m hm=>by rw[TE.size];exact c5b ih 1 m (by omega) (by omega)
theorem b4y{args:List TE}{k:Nat}{x:TE}(hx:args[k]? = some x)(a m:Int):b2t (args.drop k) a m=if m<a then a else b2t (args.drop (k+1)) (a+x.size (m-a)) m:=by
 obtain⟨hl,rfl⟩:=List.getElem?_eq_some_iff.1 hx;rw[List.drop_eq_getElem_cons hl,b2t]
theorem b9i{args:List TE}{k:Nat}(h:args.length≤k)(a m:Int):b2t (args.drop k) a m=a:=by
 rw[List.drop_eq_nil_of_le h,b2t]
def TE.great(e:TE):Bool:=decide (15<e.size 15)
mutual
def TC.fine:TC→Int→Bool
 | .mk _ _ _ _ i e args thn els,d=>!i.great && !e.great && decide (args.length≤3) && !args.any TE.great && b1H thn (d+1) && b1H els (d+1)
def b1H:List TC→Int→Bool
 | [],_=>true
 | x::xs,d=>decide (d≤5) && x.fine d && b1H xs d
end
mutual
def TC.cnt:TC→Nat
 | .mk _ _ _ _ _ _ _ thn els=>1+b1S thn+b1S els
def b1S:List TC→Nat
 | []=>0
 | x::xs=>x.cnt+b1S xs
end
theorem TC.fine_eq(x:TC)(d:Int):x.fine d=(!x.index.great && !x.expr.great && decide (x.args.length≤3) && !x.args.any TE.great && b1H x.thn (d+1) && b1H x.els (d+1)):=by
 cases x;rw[TC.fine];rfl
theorem TC.cnt_eq(x:TC):x.cnt=1+b1S x.thn+b1S x.els:=by
 cases x;rw[TC.cnt];rfl
theorem b3Q{l:List TC}{k:Nat}{x:TC}(hx:l[k]? = some x)(d:Int):b1H (l.drop k) d=(decide (d≤5) && x.fine d && b1H (l.drop (k+1)) d):=by
 obtain⟨hl,rfl⟩:=List.getElem?_eq_some_iff.1 hx;rw[List.drop_eq_getElem_cons hl,b1H]
theorem b3s{l:List TC}{k:Nat}{x:TC}(hx:l[k]? = some x):b1S (l.drop k)=x.cnt+b1S (l.drop (k+1)):=by
 obtain⟨hl,rfl⟩:=List.getElem?_eq_some_iff.1 hx;rw[List.drop_eq_getElem_cons hl,b1S]
theorem b9R{l:List TC}{k:Nat}(h:l.length≤k)(d:Int):b1H (l.drop k) d=true:=by rw[List.drop_eq_nil_of_le h,b1H]
theorem b8W{l:List TC}{k:Nat}(h:l.length≤k):b1S (l.drop k)=0:=by rw[List.drop_eq_nil_of_le h,b1S]
def TF.big(f:TF):Bool:=decide (3<f.params.length) || decide (6<f.vars.length) || f.result.great
def c1s(l:List TF):Bool:=l.any TF.big || !l.all (fun f=>b1H f.cmds 1) || decide (40<(l.map fun f=>b1S f.cmds).sum)
def many(l:List TF):Bool:=decide (6<l.length) || c1s l
def c5v:List ByteArray:=[⟨#[102,117,110,99]⟩,⟨#[109,97,105,110]⟩,⟨#[118,97,114]⟩,⟨#[97,114,114]⟩,⟨#[114,101,97,100]⟩,⟨#[112,114,105,110,116]⟩,⟨#[105,102]⟩,⟨#[101,108,115,101]⟩,⟨#[119,104,105,108,101]⟩,⟨#[114,101,116,117,114,110]⟩]
def b3w(s:ByteArray):Bool:=c5v.any fun x=>decide (x=s)
def b0H(s:ByteArray):Bool:=b1T 1 s && !b3w s
def b1p(k:Int):Int:=if k<1∨10<k then -1 else if k≤2 then 0 else if k=3 then 1 else 2
def TE.none_(e:TE):Bool:=decide (e.kind=0) && decide (e.n=0) && decide (e.name=emp) && decide (e.args.length=0)
mutual
def TE.ok:TE→Bool
 | .mk k _ n s args=>decide (b1p k=(args.length:Int)) && (if k=2∨k=3 then b0H s else decide (s=emp)) && (if k=1 then decide (-9999999≤n∧n≤9999999) else decide (n=0)) && c8I args
def c8I:List TE→Bool
 | []=>true
 | x::xs=>x.ok && c8I xs
end
theorem b5c(l:List TE):c8I l=l.all TE.ok:=by
 induction l with
 | nil=>rfl
 | cons x xs ih=>rw[c8I,List.all_cons,ih]
theorem TE.ok_eq(e:TE):e.ok=(decide (b1p e.kind=(e.args.length:Int)) && (if e.kind=2∨e.kind=3 then b0H e.name else decide (e.name=emp)) && (if e.kind=1 then decide (-9999999≤e.n∧e.n≤9999999) else decide (e.n=0)) && e.args.all TE.ok):=by
 cases e;rw[TE.ok,b5c];rfl
mutual
def TC.ok:TC→Bool
 | .mk k _ s t i e args thn els=>decide (1≤k∧k≤7) && (if k≤4 then b0H s else decide (s=emp)) && (if k=3 then b0H t else decide (t=emp)) && (if k=2 then i.ok else i.none_) && (if k=3∨k=4 then e.none_ else e.ok) &&
  (if k=3 then args.all TE.ok else decide (args.length=0)) && (if 6≤k then b1l thn else decide (thn.length=0)) && (if k=6 then b1l els else decide (els.length=0))
def b1l:List TC→Bool
 | []=>true
 | x::xs=>x.ok && b1l xs
end
theorem b1u(l:List TC):b1l l=l.all TC.ok:=by
 induction l with
 | nil=>rfl
 | cons x xs ih=>rw[b1l,List.all_cons,ih]
theorem TC.ok_eq(x:TC):x.ok=(decide (1≤x.kind∧x.kind≤7) && (if x.kind≤4 then b0H x.name else decide (x.name=emp)) && (if x.kind=3 then b0H x.other else decide (x.other=emp)) && (if x.kind=2 then x.index.ok else x.index.none_) && (if x.kind=3∨x.kind=4 then x.expr.none_ else x.expr.ok) &&
  (if x.kind=3 then x.args.all TE.ok else decide (x.args.length=0)) && (if 6≤x.kind then x.thn.all TC.ok else decide (x.thn.length=0)) && (if x.kind=6 then x.els.all TC.ok else decide (x.els.length=0))):=by
 cases x;rw[TC.ok,b1u,b1u];rfl
def TV.ok(v:TV):Bool:=b0H v.name && decide (0≤v.size∧v.size≤9999999)
def TF.ok(f:TF)(main:Bool):Bool:=
 (if main then decide (f.name=emp) && f.result.none_ && decide (f.params.length=0) else b0H f.name && f.result.ok) && f.params.all b0H && f.vars.all TV.ok && f.cmds.all TC.ok
def b4R:List TF→Bool
 | []=>true
 | [f]=>f.ok true
 | f::g::l=>f.ok false && b4R (g::l)
def b4Q(l:List TF):Int:=if many l then 2 else if l.length=0 then 1 else if b4R l then 0 else 1
def tx(l:List Tok)(p:Nat)(f:Bool):ByteArray:=if f then emp else match l[p]? with
 | some t=>t.text
 | none=>emp
def place(l:List Tok)(E:Nat)(p:Nat):Int:=match l[p]? with
 | some t=>t.at_
 | none=>E
def c0E(s:ByteArray):Int:=s.data.toList.foldl (fun n b=>10*n+(b.toNat:Int)-48) 0
abbrev RS:=Nat×Bool
def b0A(l:List Tok)(s:ByteArray)(r:RS):RS:=if r.2 then r else if tx l r.1 false=s then(r.1+1,false) else(r.1,true)
def b0D(l:List Tok)(r:RS):ByteArray×RS:=if b0H (tx l r.1 r.2) then(tx l r.1 r.2,(r.1+1,r.2)) else(emp,(r.1,true))
def b3i(s:ByteArray):Bool:=decide (s≠emp) && isD (bt s 0)
def b2w(l:List Tok)(r:RS):Int×RS:=if b3i (tx l r.1 r.2) then(c0E (tx l r.1 r.2),(r.1+1,r.2)) else(0,(r.1,true))
def b1c(c:Bool)(r:RS):RS:=if c then(r.1,true) else r
def b0T:ByteArray:=⟨#[40]⟩
def b0Y:ByteArray:=⟨#[41]⟩
def b1o:ByteArray:=⟨#[91]⟩
def b4p:ByteArray:=⟨#[93]⟩
def b0u:ByteArray:=⟨#[123]⟩
def b0v:ByteArray:=⟨#[125]⟩
def b1n:ByteArray:=⟨#[45]⟩
def b3C:ByteArray:=⟨#[48]⟩
def eqB:ByteArray:=⟨#[61]⟩
def b0s:ByteArray:=⟨#[59]⟩
def b0e:ByteArray:=⟨#[44]⟩
def c8x:List ByteArray:=[⟨#[43]⟩,⟨#[45]⟩,⟨#[42]⟩,⟨#[47]⟩,⟨#[37]⟩,⟨#[60]⟩,⟨#[61,61]⟩]
def opB(i:Nat):ByteArray:=c8x.getD i emp
def opD(l:List Tok)(r:RS):Option Nat:=(List.range 7).find? fun i=>decide (tx l r.1 r.2=opB i)
def b0K(l:List Tok)(E:Nat):Nat→RS→TE×RS
 | d,r =>
  if tx l r.1 r.2=b0T then
   match d with
   | 0=>(.mk 1 (place l E r.1) 0 emp [],(r.1,true))
   | d+1 =>
    let a:=b0K l E d (b0A l b0T r)
    let o:=opD l a.2
    let r3:=match o with
     | none=>(a.2.1,true)
     | some i=>b0A l (opB i) a.2
    let b:=b0K l E d r3
    (.mk (match o with
     | none=>0
     | some i=>4+(i:Int)) (place l E r.1) 0 emp [a.1,b.1],b0A l b0Y b.2)
  else if tx l r.1 r.2=b1n then
   let r1:=b0A l b1n r
   let m:=b2w l (b1c (decide (tx l r1.1 r1.2=b3C)) r1)
   (.mk 1 (place l E r.1) (-m.1) emp [],m.2)
  else if b3i (tx l r.1 r.2) then
   let m:=b2w l r
   (.mk 1 (place l E r.1) m.1 emp [],m.2)
  else
   let n:=b0D l r
   if tx l n.2.1 n.2.2=b1o then
    match d with
    | 0=>(.mk 2 (place l E r.1) 0 n.1 [],(n.2.1,true))
    | d+1 =>
     let a:=b0K l E d (b0A l b1o n.2)
     (.mk 3 (place l E r.1) 0 n.1 [a.1],b0A l b4p a.2)
   else(.mk 2 (place l E r.1) 0 n.1 [],n.2)
def b1R:ByteArray:=⟨#[112,114,105,110,116]⟩
def ifB:ByteArray:=⟨#[105,102]⟩
def b1e:ByteArray:=⟨#[119,104,105,108,101]⟩
def b2e:ByteArray:=⟨#[101,108,115,101]⟩
def b2P:ByteArray:=⟨#[114,101,97,100]⟩
def b7d:ByteArray:=⟨#[118,97,114]⟩
def b5t:ByteArray:=⟨#[97,114,114]⟩
def b2b:ByteArray:=⟨#[102,117,110,99]⟩
def b3b:ByteArray:=⟨#[109,97,105,110]⟩
def b1A:ByteArray:=⟨#[114,101,116,117,114,110]⟩
def b1P:TE:=.mk 0 0 0 emp []
def tx1(l:List Tok)(r:RS):ByteArray:=tx l (r.1+1) r.2
def b2l(l:List Tok)(E:Nat):Nat→Nat→RS→List TE×RS
 | 0,_,r=>([],r)
 | n+1,k,r =>
  if r.2=true∨tx l r.1 r.2=b0Y then([],r)
  else
   let r1:=if 0<k then b0A l b0e r else r
   let e:=b0K l E 60 r1
   let r2:=b1c (decide (tx l e.2.1 e.2.2≠b0e∧tx l e.2.1 e.2.2≠b0Y)) e.2
   let m:=b2l l E n (k+1) r2
   (e.1::m.1,m.2)
def b3O(l:List Tok)(E:Nat)(blk:RS→List TC×RS)(r:RS):TC×RS:=
 let at_:=place l E r.1
 let s:=tx l r.1 r.2
 if s=b1R then
  let e:=b0K l E 60 (b0A l s r)
  (.mk 5 at_ emp emp b1P e.1 [] [] [],b0A l b0s e.2)
 else if s=ifB∨s=b1e then
  let e:=b0K l E 60 (b0A l s r)
  let t:=blk e.2
  if s=ifB∧tx l t.2.1 t.2.2=b2e then
   let u:=blk (b0A l b2e t.2)
   (.mk 6 at_ emp emp b1P e.1 [] t.1 u.1,u.2)
  else(.mk (if s=b1e then 7 else 6) at_ emp emp b1P e.1 [] t.1 [],t.2)
 else
  let n:=b0D l r
  if tx l n.2.1 n.2.2=b1o then
   let i:=b0K l E 60 (b0A l b1o n.2)
   let e:=b0K l E 60 (b0A l eqB (b0A l b4p i.2))
   (.mk 2 at_ n.1 emp i.1 e.1 [] [] [],b0A l b0s e.2)
  else
   let q:=b0A l eqB n.2
   if tx l q.1 q.2=b2P then(.mk 4 at_ n.1 emp b1P b1P [] [] [],b0A l b0s (b0A l b2P q))
   else if b0H (tx l q.1 q.2)=true∧tx1 l q=b0T then
    let o:=b0D l q
    let m:=b2l l E (l.length+1) 0 (b0A l b0T o.2)
    (.mk 3 at_ n.1 o.1 b1P b1P m.1 [] [],b0A l b0s (b0A l b0Y m.2))
   else
    let e:=b0K l E 60 q
    (.mk 1 at_ n.1 emp b1P e.1 [] [] [],b0A l b0s e.2)
def b1K(l:List Tok)(E:Nat):Nat→ByteArray→RS→List TC×RS
 | 0,_,r=>([],r)
 | n+1,s,r =>
  if r.2=true∨tx l r.1 r.2=s then([],r)
  else
   let x:=b3O l E (fun q=>let m:=b1K l E n b0v (b0A l b0u q);(m.1,b0A l b0v m.2)) r
   let m:=b1K l E n s x.2
   (x.1::m.1,m.2)
def b2y(l:List Tok)(E n:Nat)(q:RS):List TC×RS:=((b1K l E n b0v (b0A l b0u q)).1,b0A l b0v (b1K l E n b0v (b0A l b0u q)).2)
def b1b(l:List Tok):Nat→RS→List TV×RS
 | 0,r=>([],r)
 | n+1,r =>
  if r.2=false∧(tx l r.1 r.2=b7d∨tx l r.1 r.2=b5t) then
   let a:=decide (tx l r.1 r.2=b5t)
   let m:=b0D l (b0A l (tx l r.1 r.2) r)
   let k:=if a then b2w l (b1c (decide (tx l m.2.1 m.2.2=b3C)) m.2) else(0,m.2)
   let v:=b1b l n (b0A l b0s k.2)
   (⟨m.1,k.1⟩::v.1,v.2)
  else([],r)
def b0z(l:List Tok):Nat→Nat→RS→List ByteArray×RS
 | 0,_,r=>([],r)
 | n+1,k,r =>
  if r.2=true∨tx l r.1 r.2=b0Y then([],r)
  else
   let m:=b0D l (if 0<k then b0A l b0e r else r)
   let v:=b0z l n (k+1) m.2
   (m.1::v.1,v.2)
def b5W(l:List Tok)(E:Nat)(r:RS):TF×RS:=
 let nm:=b0D l (b0A l b2b r)
 let ps:=b0z l (l.length+1) 0 (b0A l b0T nm.2)
 let vs:=b1b l (l.length+1) (b0A l b0u (b0A l b0Y ps.2))
 let cs:=b1K l E (l.length+1) b1A vs.2
 let e:=b0K l E 60 (b0A l b1A cs.2)
 (⟨place l E r.1,nm.1,ps.1,vs.1,cs.1,e.1⟩,b0A l b0v (b0A l b0s e.2))
def b1x(l:List Tok)(E:Nat):Nat→RS→List TF×RS
 | 0,r=>([],r)
 | n+1,r =>
  if r.2=false∧tx l r.1 r.2=b2b then
   let f:=b5W l E r
   let m:=b1x l E n f.2
   (f.1::m.1,m.2)
  else([],r)
def b2Q(l:List Tok)(E:Nat):List TF×RS:=
 let fs:=b1x l E (l.length+1) (0,false)
 let vs:=b1b l (l.length+1) (b0A l b0u (b0A l b3b fs.2))
 let cs:=b1K l E (l.length+1) b0v vs.2
 (fs.1++[⟨place l E fs.2.1,emp,[],vs.1,cs.1,b1P⟩],b0A l b0v cs.2)
def b1m(s:ByteArray):List TF×Int×Int:=
 if(b0N s).2.2=0 then
  (if(b2Q (b0N s).1 s.size).2.2=true∨(b2Q (b0N s).1 s.size).2.1<(b0N s).1.length then([],place (b0N s).1 s.size (b2Q (b0N s).1 s.size).2.1,1)
  else if b4Q (b2Q (b0N s).1 s.size).1=0 then((b2Q (b0N s).1 s.size).1,0,0) else([],0,b4Q (b2Q (b0N s).1 s.size).1))
 else([],(b0N s).2.1,(b0N s).2.2)
theorem b8L(s:ByteArray)(i:Nat):(b0X s i).1=0∨(b0X s i).1=1∨(b0X s i).1=2∨(b0X s i).1=3:=by
 rw[b1j];by_cases h1:isL (bt s i)=true
 ·rw[if_pos h1];exact .inr (.inl rfl)
 ·rw[if_neg h1];by_cases h1:isD (bt s i)=true
  ·rw[if_pos h1];exact .inr (.inr (.inl rfl))
  ·rw[if_neg h1];by_cases h1:bt s i=61∧bt s (i+1)=61
   ·rw[if_pos h1];exact .inr (.inr (.inr rfl))
   ·rw[if_neg h1];by_cases h1:isS (bt s i)=true
    ·rw[if_pos h1];exact .inr (.inr (.inr rfl))
    ·rw[if_neg h1];exact .inl rfl
theorem b0o(s:ByteArray)(i n:Nat)(k:Int)(w:World)(hs:c1x s.size)(hi:i<s.size)(hk:((b0X s i).1:Int)=k)(hn:(b0X s i).2=n) :
  Calls Tryz.prog 92 #[.string s,.int .i64 i] w fun r w'=>r=.returned (.tuple #[.int .i64 k,.int .i64 n])∧w=w':=
 (c0f s i w hs hi).mono fun r w' ⟨h1,h2⟩=>by
  unfold b3q at h1;rw[hk,hn] at h1;exact⟨h1,h2⟩
theorem c3K:Elem Tryz.prog 37 43 3 32:=Elem.mk_ (z:=.agg #[.int .i64 0,.int .i64 0,.string emp]) Tryz.underlying37 (by kernel_rfl) rfl (by decide)
theorem b4X(acc:List Tok)(t:Tok):(acc++[t]).flatMap Tok.cells=acc.flatMap Tok.cells++[.int .i64 t.kind,.int .i64 t.at_,.string t.text]:=by
 rw[List.flatMap_append,List.flatMap_cons,List.flatMap_nil,List.append_nil];rfl
theorem c2e{s:ByteArray}{i n:Nat}{k:Int}(hk:((b0X s i).1:Int)=k)(hn:(b0X s i).2=n):b1f s i=⟨k,i,s.extract i (i+n)⟩:=by
 unfold b1f;rw[hk,hn]
theorem b4w{s:ByteArray}{i n:Nat}{k:Int}{acc:List Tok}(h:i<s.size)(h35:s[i].toNat≠35)(hb:b5q s[i].toNat=false)(hk:((b0X s i).1:Int)=k)(hn:(b0X s i).2=n)(h0:b1I s i=0) :
  b1z s i false acc=b1z s (i+n) false (acc++[⟨k,i,s.extract i (i+n)⟩]):=by
 rw[b4c h (by simp[h35]) hb h0,c2e hk hn,hn]
theorem b4u{s:ByteArray}{i:Nat}{acc:List Tok}{e:Int}(h:i<s.size)(h35:s[i].toNat≠35)(hb:b5q s[i].toNat=false)(h0:b1I s i=e)(he:e≠0) :
  b1z s i false acc=([],(i:Int),e):=by
 rw[b7Y h (by simp[h35]) hb (by rw[h0];exact he),h0]
def b9r(s:ByteArray)(w:World)(r:Ending)(w':World):Prop:=∃v,r=.returned (.tuple #[v,.int .i64 (b0N s).2.1,.int .i64 (b0N s).2.2])∧Sl b1V w' v (b0N s).1∧Bel w w'
theorem c2S(s:ByteArray)(w:World)(_hm:s.size≤maxLen) :
  Calls Tryz.prog 51 #[.string s] w fun r w'=>b9r s w r w':=by
 by_cases hs:6000<s.size
 ·have HR:Hid (b0N s=([],0,2)):=Hi_ (by unfold b0N;rw[if_pos hs]);go_enter Tryz.func51,Tryz.ntmps51;go_wp2;go_ret3
  exact⟨_,by rw[HR.out];rfl,by rw[HR.out];exact Sl.nil_ _ _,Bel.rfl_ w⟩
 ·have HR:Hid (b0N s=b1z s 0 false []):=Hi_ (by unfold b0N;rw[if_neg hs]);clear _hm;go_enter Tryz.func51,Tryz.ntmps51;go_wp2;go_loopw [5,6,7] (fun v b p wr=>∃(i:Nat) (note:Bool) (acc:List Tok),p=.int .i64 i∧b=.bool note∧i≤s.size∧acc.length≤i∧Hid (b1z s i note acc=b0N s)∧Hid (wr.ownsRow w.heap.size 43 3 v acc.length (acc.flatMap Tok.cells))∧Hid (Bel w wr)) (fun _ _ p _=>s.size-(intOf p).toNat)
  case atStart=>exact⟨0,false,[],rfl,rfl,by omega,by simp,by rw[HR.out];rfl,World.ownsRow_nil _ _ _ _,Bel.rfl_ w⟩
  case round =>
   obtain⟨i,note,acc,rfl,rfl,hi,hacc,HS,HO,HB⟩:=hrel;clear HR;by_cases hlt:i<s.size
   ·by_cases hnote:(note || s[i].toNat==35)=true
    ·have HS2:Hid (b1z s (i+1) (s[i].toNat != 10) acc=b0N s):=Hi_ (by rw[←HS.out,b6D hlt hnote]);have h10:((s[i].toNat:Int) != 10)=(s[i].toNat != 10):=by rw[Bool.eq_iff_iff];simp;omega
     generalize(s[i].toNat != 10)=b2 at h10 HS2;cases note with
     | true =>
      clear hnote;go_wp2;go_roundw
      case rel=>exact⟨i+1,b2,acc,by go_num,rfl,by omega,by omega,HS2,HO,HB⟩
      case measure=>simp[intOf];omega
     | false =>
      have d35:((s[i].toNat:Int)==35)=true:=by simp at hnote;simp;omega
      clear hnote;go_wp2;go_roundw
      case rel=>exact⟨i+1,b2,acc,by go_num,rfl,by omega,by omega,HS2,HO,HB⟩
      case measure=>simp[intOf];omega
    ·obtain rfl:note=false:=by cases note;rfl;simp at hnote
     have h35:s[i].toNat≠35:=by simpa using hnote
     have d35:((s[i].toNat:Int)==35)=false:=by simp;omega
     clear hnote;cases hbl:b5q s[i].toNat with
     | true =>
      have HS2:Hid (b1z s (i+1) false acc=b0N s):=Hi_ (by rw[←HS.out,b6p hlt (by simp[h35]) hbl]);have H35:=Hi_ h35;clear h35;unfold b5q at hbl;by_cases h32:s[i].toNat=32
      ·have e1:((s[i].toNat:Int)==32)=true:=by simp;omega
       clear hbl h32;go_wp2;go_roundw
       case rel=>exact⟨i+1,false,acc,by go_num,rfl,by omega,by omega,HS2,HO,HB⟩
       case measure=>simp[intOf];omega
      ·have e1:((s[i].toNat:Int)==32)=false:=by simp;omega
       by_cases h9:s[i].toNat=9
       ·have e2:((s[i].toNat:Int)==9)=true:=by simp;omega
        clear hbl h32 h9;go_wp2;go_roundw
        case rel=>exact⟨i+1,false,acc,by go_num,rfl,by omega,by omega,HS2,HO,HB⟩
        case measure=>simp[intOf];omega
       ·have e2:((s[i].toNat:Int)==9)=false:=by simp;omega
        have e3:((s[i].toNat:Int)==10)=true:=by simp[h32,h9] at hbl;simp;omega
        clear hbl h32 h9;go_wp2;go_roundw
        case rel=>exact⟨i+1,false,acc,by go_num,rfl,by omega,by omega,HS2,HO,HB⟩
        case measure=>simp[intOf];omega
     | false =>
      obtain⟨k,n,hkn⟩:∃k n,b0X s i=(k,n):=⟨_,_,rfl⟩;have hk4:=b8L s i;have hpos:Hid ((b0X s i).1≠0→0<n∧i+n≤s.size):=Hi_ (fun h=>by have:=b2B h;rw[hkn] at this;exact this);have HE:=Hi_ (b2C s i);have HK:=Hi_ hkn;have H35:=Hi_ h35;have HBL:=Hi_ hbl;unfold b5q at hbl;have e1:((s[i].toNat:Int)==32)=false:=by simp at hbl;simp;omega
      have e2:((s[i].toNat:Int)==9)=false:=by simp at hbl;simp;omega
      have e3:((s[i].toNat:Int)==10)=false:=by simp at hbl;simp;omega
      rw[hkn] at hk4;simp only at hk4;clear hkn h35 hbl;rcases hk4 with rfl | rfl | rfl | rfl
      ·clear hpos;have HT:Hid (b0N s=([],(i:Int),1)):=Hi_ (by rw[←HS.out];exact b4u hlt H35.out HBL.out (by rw[HE.out,HK.out,if_pos rfl]) (by decide));have HTA:=Hi_ (fun W=>b0o s i n 0 W (by unfold c1x;omega) hlt (by rw[HK.out];rfl) (by rw[HK.out]));clear HE HS;go_wp2_with (go_at_call 92;refine(HTA.out _).mono ?_;rintro e w' ⟨rfl,rfl⟩)
       go_ret3
       exact⟨_,by rw[HT.out];rfl,by rw[HT.out];exact Sl.nil_ _ _,HB.out⟩
      ·by_cases h12:12<n
       ·have hp:=hpos.out (by rw[HK.out];simp);have HT:Hid (b0N s=([],(i:Int),2)):=Hi_ (by rw[←HS.out];exact b4u hlt H35.out HBL.out (by rw[HE.out,HK.out,if_neg (by simp),if_pos (.inl ⟨rfl,h12⟩)]) (by decide));have HTA:=Hi_ (fun W=>b0o s i n 1 W (by unfold c1x;omega) hlt (by rw[HK.out];rfl) (by rw[HK.out]));clear HE HS;go_wp2_with (go_at_call 92;refine(HTA.out _).mono ?_;rintro e w' ⟨rfl,rfl⟩)
        go_ret3
        exact⟨_,by rw[HT.out];rfl,by rw[HT.out];exact Sl.nil_ _ _,HB.out⟩
       ·have hp:=hpos.out (by rw[HK.out];simp);have HT:Hid (b1z s (i+n) false (acc++[⟨1,i,s.extract i (i+n)⟩])=b0N s):=Hi_ (by rw[←HS.out];exact(b4w hlt H35.out HBL.out (by rw[HK.out];rfl) (by rw[HK.out]) (by rw[HE.out,HK.out,if_neg (by simp),if_neg (by simp;omega),if_neg (by simp)])).symm);have HTA:=Hi_ (fun W=>b0o s i n 1 W (by unfold c1x;omega) hlt (by rw[HK.out];rfl) (by rw[HK.out]));clear HE HS
        go_wp2_with (first
         | (go_at_call 92;refine(HTA.out _).mono ?_;rintro e w' ⟨rfl,rfl⟩)
         | (at_builtin;refine b2v wr rfl (.tmp 91) (.tmp 96) 37 rfl w.heap.size c3K u5 acc.length _ rfl HO.out [.int .i64 1,.int .i64 i,.string (s.extract i (i+n))] rfl rfl (by simp[Value.oneCell']) (by simp only[maxLen];omega) (by omega) HB.out.size ?_;intro g cap w2 hown2 hg2 _;have HO2:=Hi_ hown2;have HB2:=Hi_ (Below.ofGrown HB.out HO.out hg2 (Nat.le_refl _) HB.out.size);clear hown2 hg2))
        go_roundw
        case rel=>exact⟨i+n,false,acc++[⟨1,i,s.extract i (i+n)⟩],by go_num,rfl,by omega,by rw[List.length_append];simp only[List.length_cons,List.length_nil];omega,HT,(by unfold Hid;rw[b4X,List.length_append];exact HO2.out),HB2⟩
        case measure=>simp[intOf];omega
      ·by_cases h7:7<n
       ·have hp:=hpos.out (by rw[HK.out];simp);have HT:Hid (b0N s=([],(i:Int),2)):=Hi_ (by rw[←HS.out];exact b4u hlt H35.out HBL.out (by rw[HE.out,HK.out,if_neg (by simp),if_pos (.inr ⟨rfl,h7⟩)]) (by decide));have HTA:=Hi_ (fun W=>b0o s i n 2 W (by unfold c1x;omega) hlt (by rw[HK.out];rfl) (by rw[HK.out]));clear HE HS;go_wp2_with (go_at_call 92;refine(HTA.out _).mono ?_;rintro e w' ⟨rfl,rfl⟩)
        go_ret3
        exact⟨_,by rw[HT.out];rfl,by rw[HT.out];exact Sl.nil_ _ _,HB.out⟩
       ·by_cases h1:1<n
        ·have hp:=hpos.out (by rw[HK.out];simp);by_cases h48:s[i].toNat=48
         ·have H48:=Hi_ h48;have d48:(((s.extract i (i+n))[0]'(by rw[ByteArray.size_extract];omega)).toNat:Int)=48:=by rw[ByteArray.getElem_extract];simp[h48]
          clear h48;have HT:Hid (b0N s=([],(i:Int),1)):=Hi_ (by rw[←HS.out];exact b4u hlt H35.out HBL.out (by rw[HE.out,HK.out,if_neg (by simp),if_neg (by simp;omega),if_pos ⟨rfl,h1,by rw[b2N hlt];exact H48.out⟩]) (by decide));have HTA:=Hi_ (fun W=>b0o s i n 2 W (by unfold c1x;omega) hlt (by rw[HK.out];rfl) (by rw[HK.out]));clear HE HS;go_wp2_with (go_at_call 92;refine(HTA.out _).mono ?_;rintro e w' ⟨rfl,rfl⟩)
          go_ret3
          exact⟨_,by rw[HT.out];rfl,by rw[HT.out];exact Sl.nil_ _ _,HB.out⟩
         ·have H48:=Hi_ h48;have d48:((((s.extract i (i+n))[0]'(by rw[ByteArray.size_extract];omega)).toNat:Int)==48)=false:=by rw[ByteArray.getElem_extract];simp;omega
          clear h48;have hp:=hpos.out (by rw[HK.out];simp);have HT:Hid (b1z s (i+n) false (acc++[⟨2,i,s.extract i (i+n)⟩])=b0N s):=Hi_ (by rw[←HS.out];exact(b4w hlt H35.out HBL.out (by rw[HK.out];rfl) (by rw[HK.out]) (by rw[HE.out,HK.out,if_neg (by simp),if_neg (by simp;omega),if_neg (by rw[b2N hlt];exact fun h=>H48.out h.2.2)])).symm);have HTA:=Hi_ (fun W=>b0o s i n 2 W (by unfold c1x;omega) hlt (by rw[HK.out];rfl) (by rw[HK.out]));clear HE HS
          go_wp2_with (first
           | (go_at_call 92;refine(HTA.out _).mono ?_;rintro e w' ⟨rfl,rfl⟩)
           | (at_builtin;refine b2v wr rfl (.tmp 91) (.tmp 96) 37 rfl w.heap.size c3K u5 acc.length _ rfl HO.out [.int .i64 2,.int .i64 i,.string (s.extract i (i+n))] rfl rfl (by simp[Value.oneCell']) (by simp only[maxLen];omega) (by omega) HB.out.size ?_;intro g cap w2 hown2 hg2 _;have HO2:=Hi_ hown2;have HB2:=Hi_ (Below.ofGrown HB.out HO.out hg2 (Nat.le_refl _) HB.out.size);clear hown2 hg2))
          go_roundw
          case rel=>exact⟨i+n,false,acc++[⟨2,i,s.extract i (i+n)⟩],by go_num,rfl,by omega,by rw[List.length_append];simp only[List.length_cons,List.length_nil];omega,HT,(by unfold Hid;rw[b4X,List.length_append];exact HO2.out),HB2⟩
          case measure=>simp[intOf];omega
        ·have hp:=hpos.out (by rw[HK.out];simp);have HT:Hid (b1z s (i+n) false (acc++[⟨2,i,s.extract i (i+n)⟩])=b0N s):=Hi_ (by rw[←HS.out];exact(b4w hlt H35.out HBL.out (by rw[HK.out];rfl) (by rw[HK.out]) (by rw[HE.out,HK.out,if_neg (by simp),if_neg (by simp;omega),if_neg (by simp;omega)])).symm);have HTA:=Hi_ (fun W=>b0o s i n 2 W (by unfold c1x;omega) hlt (by rw[HK.out];rfl) (by rw[HK.out]));clear HE HS
         go_wp2_with (first
          | (go_at_call 92;refine(HTA.out _).mono ?_;rintro e w' ⟨rfl,rfl⟩)
          | (at_builtin;refine b2v wr rfl (.tmp 91) (.tmp 96) 37 rfl w.heap.size c3K u5 acc.length _ rfl HO.out [.int .i64 2,.int .i64 i,.string (s.extract i (i+n))] rfl rfl (by simp[Value.oneCell']) (by simp only[maxLen];omega) (by omega) HB.out.size ?_;intro g cap w2 hown2 hg2 _;have HO2:=Hi_ hown2;have HB2:=Hi_ (Below.ofGrown HB.out HO.out hg2 (Nat.le_refl _) HB.out.size);clear hown2 hg2))
         go_roundw
         case rel=>exact⟨i+n,false,acc++[⟨2,i,s.extract i (i+n)⟩],by go_num,rfl,by omega,by rw[List.length_append];simp only[List.length_cons,List.length_nil];omega,HT,(by unfold Hid;rw[b4X,List.length_append];exact HO2.out),HB2⟩
         case measure=>simp[intOf];omega
      ·have hp:=hpos.out (by rw[HK.out];simp);have HT:Hid (b1z s (i+n) false (acc++[⟨3,i,s.extract i (i+n)⟩])=b0N s):=Hi_ (by rw[←HS.out];exact(b4w hlt H35.out HBL.out (by rw[HK.out];rfl) (by rw[HK.out]) (by rw[HE.out,HK.out,if_neg (by simp),if_neg (by simp),if_neg (by simp)])).symm);have HTA:=Hi_ (fun W=>b0o s i n 3 W (by unfold c1x;omega) hlt (by rw[HK.out];rfl) (by rw[HK.out]));clear HE HS
       go_wp2_with (first
        | (go_at_call 92;refine(HTA.out _).mono ?_;rintro e w' ⟨rfl,rfl⟩)
        | (at_builtin;refine b2v wr rfl (.tmp 91) (.tmp 96) 37 rfl w.heap.size c3K u5 acc.length _ rfl HO.out [.int .i64 3,.int .i64 i,.string (s.extract i (i+n))] rfl rfl (by simp[Value.oneCell']) (by simp only[maxLen];omega) (by omega) HB.out.size ?_;intro g cap w2 hown2 hg2 _;have HO2:=Hi_ hown2;have HB2:=Hi_ (Below.ofGrown HB.out HO.out hg2 (Nat.le_refl _) HB.out.size);clear hown2 hg2))
       go_roundw
       case rel=>exact⟨i+n,false,acc++[⟨3,i,s.extract i (i+n)⟩],by go_num,rfl,by omega,by rw[List.length_append];simp only[List.length_cons,List.length_nil];omega,HT,(by unfold Hid;rw[b4X,List.length_append];exact HO2.out),HB2⟩
       case measure=>simp[intOf];omega
   ·obtain rfl:i=s.size:=by omega
    have HT:Hid (b0N s=(acc,0,0)):=Hi_ (by rw[←HS.out,b3g hlt]);go_wp2;go_ret3
    exact⟨_,by rw[HT.out];rfl,by rw[HT.out];exact Sl.own_tok HO.out rfl,HB.out⟩
end Go.Proofs.YtmfjlcpjemccmaaGreatDoor
