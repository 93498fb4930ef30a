/- What trees are shown as is scanned to these words: plain words. Each lemma states its own conditions. -/
import Derived.Test.YtmfjlcpjemccmaaGreatDoorSbk50
namespace Go.Proofs.YtmfjlcpjemccmaaGreatDoor
open Go.RowKit
abbrev Tks:=List (Int×ByteArray)
def b7O(n:Int):Tks:=if n<0 then[(3,b1n),(2,b2m n.natAbs)] else[(2,b2m n.toNat)]
def b4C(k n:Int)(s:ByteArray)(l:List Tks):Tks:=
 if k=1 then b7O n else if k=2 then[(1,s)] else if k=3 then(1,s)::(3,b1o)::(l.getD 0 []++[(3,b4p)])
 else(3,b0T)::(l.getD 0 []++((3,opB (k-4).toNat)::(l.getD 1 []++[(3,b0Y)])))
mutual
def TE.toks:TE→Tks
 | .mk k _ n s args=>b4C k n s (c1Q args)
def c1Q:List TE→List Tks
 | []=>[]
 | x::xs=>x.toks::c1Q xs
end
theorem b5A(l:List TE):c1Q l=l.map TE.toks:=by
 induction l with
 | nil=>rfl
 | cons x xs ih=>rw[c1Q,ih,List.map_cons]
theorem b8o{s:ByteArray}(h:b0H s=true):b1T 1 s=true∧bt s 0≠61∧b3w s=false:=by
 unfold b0H at h;rw[Bool.and_eq_true] at h;refine⟨h.1,fun e=>?_,by simpa using h.2⟩;obtain⟨_,h2,_,_⟩:=c3a.1 h.1;rw[b1j,e,if_neg (by decide),if_neg (by decide)] at h2;split at h2
 ·exact absurd h2 (by decide)
 ·rw[if_pos (by decide)] at h2;exact absurd h2 (by decide)
theorem Txt.name{s:ByteArray}(h:b0H s=true):Txt s [(1,s)]:=Txt.word (k:=1) (b8o h).1 (b8o h).2.1
theorem Txt.dec{u:Nat}(h:u<10000000):Txt (b2m u) [(2,b2m u)]:=Txt.word (k:=2) (c3J h).1 (c3J h).2
theorem Txt.num{n:Int}(h:-9999999≤n∧n≤9999999):Txt (b6a n) (b7O n):=by
 by_cases h0:n<0
 ·obtain⟨u,rfl⟩:∃u:Nat,n=-(u:Int):=⟨(-n).toNat,by omega⟩;rw[c4x u (by omega),b7O,if_pos h0,Int.natAbs_neg,Int.natAbs_natCast];exact b2c.appT (b2c.sign1 (x:=45) (by decide) (by decide)) (Txt.dec (by omega))
 ·obtain⟨u,rfl⟩:∃u:Nat,n=u:=⟨n.toNat,by omega⟩;rw[c4w,b7O,if_neg h0,Int.toNat_natCast];exact Txt.dec (by omega)
theorem Txt.app'{a b c:ByteArray}{s t:Tks}(h:Txt a s)(k:b2c (c++b) t)(hc:0<c.size)(hd:b3v (bt c 0)=false):b2c (a++(c++b)) (s++t):=
 h.app k (by rw[ByteArray.size_append];omega) (by rw[b3r,if_pos hc];exact hd)
theorem spO:b2c spB []:=b2c.blanks (by decide)
theorem lfO:b2c ⟨#[10]⟩ []:=b2c.blanks (by decide)
theorem lparO:b2c b0T [(3,b0T)]:=b2c.sign1 (x:=40) (by decide) (by decide)
theorem c8g:b2c b0Y [(3,b0Y)]:=b2c.sign1 (x:=41) (by decide) (by decide)
theorem lsqO:b2c b1o [(3,b1o)]:=b2c.sign1 (x:=91) (by decide) (by decide)
theorem rsqO:b2c b4p [(3,b4p)]:=b2c.sign1 (x:=93) (by decide) (by decide)
theorem c8O:b2c b0u [(3,b0u)]:=b2c.sign1 (x:=123) (by decide) (by decide)
theorem rcurO:b2c b0v [(3,b0v)]:=b2c.sign1 (x:=125) (by decide) (by decide)
theorem semiO:b2c b0s [(3,b0s)]:=b2c.sign1 (x:=59) (by decide) (by decide)
theorem c8u:b2c b0e [(3,b0e)]:=b2c.sign1 (x:=44) (by decide) (by decide)
theorem eqO:b2c isB [(3,eqB)]:=fun S i hl=>by
 have h0:bt S i=32:=by have:=hl 0 (by decide);rw[Nat.add_zero] at this;exact this
 have h1:bt S (i+1)=61:=hl 1 (by decide);have h2:bt S (i+2)=32:=hl 2 (by decide)
 have r2:b6R S (i+1) (i+1+1) [(3,eqB)]:=b6R.sign (b:=61) (by decide) (Or.inr (by rw[h2];decide)) rfl rfl (fun k hk=>by
  have hk:k<1:=hk;obtain rfl:k=0:=by omega
  exact h1)
 exact(b6R.blank (by rw[h0];decide)).trans (r2.trans (b6R.blank (by rw[h2];decide)))
theorem c0g{w:ByteArray}(h:b1T 1 w=true∧bt w 0≠61):b2c (w++spB) [(1,w)]:=(Txt.word (k:=1) h.1 h.2).app spO (by decide) (by decide)
theorem c5p:b2c b7f [(3,b0s)]:=(semiO.app lfO).as (by decide)
theorem putO:b2c c7n [(3,b4p),(3,eqB)]:=(rsqO.app eqO).as (by decide)
theorem calO:b2c c7Y [(3,b0Y),(3,b0s)]:=(c8g.app c5p).as (by decide)
theorem c8Z:b2c c5U [(3,b0u)]:=((spO.app c8O).app lfO).as (by decide)
theorem c7Z:b2c c4X [(3,b0v)]:=(rcurO.app lfO).as (by decide)
theorem rdO:b2c rdB [(3,eqB),(1,b2P),(3,b0s)]:=(eqO.app ((Txt.word (k:=1) (w:=b2P) (by decide +kernel) (by decide)).app c5p (by decide) (by decide))).as (by decide)
theorem priO:b2c c7m [(1,b1R)]:=(c0g (w:=b1R) (by decide +kernel)).as (by decide)
theorem iffO:b2c c7d [(1,ifB)]:=(c0g (w:=ifB) (by decide +kernel)).as (by decide)
theorem whiO:b2c c8C [(1,b1e)]:=(c0g (w:=b1e) (by decide +kernel)).as (by decide)
theorem elsO:b2c c7c [(3,b0v),(1,b2e),(3,b0u)]:=((rcurO.app spO).app ((Txt.word (k:=1) (w:=b2e) (by decide +kernel) (by decide)).app c8Z (by decide) (by decide))).as (by decide)
theorem maiO:b2c c8H [(1,b3b),(3,b0u)]:=((Txt.word (k:=1) (w:=b3b) (by decide +kernel) (by decide)).app c8Z (by decide) (by decide)).as (by decide)
theorem funO:b2c c8F [(1,b2b)]:=(c0g (w:=b2b) (by decide +kernel)).as (by decide)
theorem hedO:b2c c8G [(3,b0Y),(3,b0u)]:=(c8g.app c8Z).as (by decide)
theorem c8z:b2c b4S []:=b2c.blanks (by decide)
theorem vaO:b2c vaB [(1,b7d)]:=(c8z.app (c0g (w:=b7d) (by decide +kernel))).as (by decide)
theorem arO:b2c arB [(1,b5t)]:=(c8z.app (c0g (w:=b5t) (by decide +kernel))).as (by decide)
theorem retO:b2c c8J [(1,b1A)]:=(c8z.app (c0g (w:=b1A) (by decide +kernel))).as (by decide)
theorem opO{i:Nat}(h:i<7):b2c (opB i) [(3,opB i)]:=by
 have e:i=0∨i=1∨i=2∨i=3∨i=4∨i=5∨i=6:=by omega
 rcases e with rfl | rfl | rfl | rfl | rfl | rfl | rfl
 ·exact b2c.sign1 (x:=43) (by decide) (by decide)
 ·exact b2c.sign1 (x:=45) (by decide) (by decide)
 ·exact b2c.sign1 (x:=42) (by decide) (by decide)
 ·exact b2c.sign1 (x:=47) (by decide) (by decide)
 ·exact b2c.sign1 (x:=37) (by decide) (by decide)
 ·exact b2c.sign1 (x:=60) (by decide) (by decide)
 ·exact fun S i hl=>b6R.two hl
theorem TE.ok_cases{k a n:Int}{s:ByteArray}{args:List TE}(h:(TE.mk k a n s args).ok=true) :
  (k=1∧args=[]∧s=emp∧-9999999≤n∧n≤9999999)∨(k=2∧args=[]∧b0H s=true∧n=0)∨(k=3∧(∃x,args=[x]∧x.ok=true)∧b0H s=true∧n=0) ∨
  ((∃i:Nat,i<7∧k=4+(i:Int))∧(∃x y,args=[x,y]∧x.ok=true∧y.ok=true)∧s=emp∧n=0):=by
 rw[TE.ok,b5c,Bool.and_eq_true,Bool.and_eq_true,Bool.and_eq_true,List.all_eq_true] at h;obtain⟨⟨⟨h1,h2⟩,h3⟩,h4⟩:=h;replace h1:=of_decide_eq_true h1;unfold b1p at h1;by_cases k1:k=1
 ·subst k1;simp at h1 h2 h3;have:args=[]:=List.eq_nil_of_length_eq_zero (by omega);exact Or.inl ⟨rfl,this,h2,h3⟩
 by_cases k2:k=2
 ·subst k2;simp at h1 h2 h3;have:args=[]:=List.eq_nil_of_length_eq_zero (by omega);exact Or.inr (Or.inl ⟨rfl,this,h2,h3⟩)
 by_cases k3:k=3
 ·subst k3;simp at h1 h2 h3;obtain⟨x,rfl⟩:∃x,args=[x]:=List.length_eq_one_iff.1 (by omega);exact Or.inr (Or.inr (Or.inl ⟨rfl,⟨x,rfl,h4 x (by simp)⟩,h2,h3⟩))
 rw[if_neg (by omega)] at h2;rw[if_neg k1] at h3;replace h2:=of_decide_eq_true h2;replace h3:=of_decide_eq_true h3
 have hk:4≤k∧k≤10:=by
  split at h1
  ·omega
  ·omega
 rw[if_neg (by omega),if_neg (by omega),if_neg k3] at h1
 obtain⟨x,y,rfl⟩:∃x y,args=[x,y]:=by
  match args,h1 with
  | [x,y],_=>exact⟨x,y,rfl⟩
  | [],h=>simp at h
  | [_],h=>simp at h
  | _::_::_::_,h=>simp at h;omega
 exact Or.inr (Or.inr (Or.inr ⟨⟨(k-4).toNat,by omega,by omega⟩,⟨x,y,rfl,h4 x (by simp),h4 y (by simp)⟩,h2,h3⟩))
theorem TE.txt:∀e:TE,e.ok=true→Txt e.text e.toks:=
 TE.ind fun k a n s args ih h=>by
  rw[TE.text,TE.toks,b6G,b5A];rcases TE.ok_cases h with⟨rfl,rfl,-,hn⟩ | ⟨rfl,rfl,hs,-⟩ | ⟨rfl,⟨x,rfl,hx⟩,hs,-⟩ | ⟨⟨i,hi,rfl⟩,⟨x,y,rfl,hx,hy⟩,-,-⟩
  ·unfold c0Y b4C;rw[if_pos rfl,if_pos rfl];exact Txt.num hn
  ·unfold c0Y b4C;rw[if_neg (by decide),if_pos rfl,if_neg (by decide),if_pos rfl];exact Txt.name hs
  ·unfold c0Y b4C;rw[if_neg (by decide),if_neg (by decide),if_pos rfl,if_neg (by decide),if_neg (by decide),if_pos rfl];exact((((Txt.name hs).app lsqO (by decide) (by decide)).appT (ih x (by simp) hx)).app rsqO (by decide) (by decide)).to (by simp) |>.txt
  ·unfold c0Y b4C;rw[if_neg (by omega),if_neg (by omega),if_neg (by omega),if_neg (by omega),if_neg (by omega),if_neg (by omega),show(4+(i:Int)-4).toNat=i by omega];exact(((((((lparO.appT (ih x (by simp) hx)).app spO (by decide) (by decide)).app (opO hi)).app spO).appT (ih y (by simp) hy)).app c8g (by decide) (by decide)).to (by simp)).txt
def b4V:List Tks→Tks
 | []=>[]
 | [x]=>x
 | x::y::l=>x++((3,b0e)::b4V (y::l))
theorem b8Y{α:Type}(f:α→ByteArray)(g:α→Tks):∀l:List α,(∀x∈l,Txt (f x) (g x))→Txt (b2Z (l.map f)) (b4V (l.map g))
 | [],_=>b2c.emp_.txt
 | [x],h=>h x (by simp)
 | x::y::l,h=>by
  have h2:=b8Y f g (y::l) (fun z hz=>h z (by simp[hz]));have hc:b2c ⟨#[44,32]⟩ [(3,b0e)]:=(c8u.app spO).as (by decide);rw[List.map_cons,List.map_cons,List.map_cons,List.map_cons,b2Z,b4V] at *;intro S i hl hd;obtain⟨h3,h4⟩:=hl.app;rw[ByteArray.size_append,←Nat.add_assoc] at hd ⊢
  have h0:bt S (i+(f x).size)=44:=by
   have:=h4 0 (by rw[ByteArray.size_append];exact Nat.lt_of_lt_of_le (by decide:0<2) (Nat.le_add_right _ _));rw[Nat.add_zero,b3r,if_pos (by decide)] at this;exact this
  exact(h x (by simp) S i h3 (by rw[h0];decide)).trans ((hc.appT h2) S _ h4 hd)
def c4N(k:Int)(s t:ByteArray)(i e:Tks)(args:List Tks)(thn els:Tks)(ne:Bool):Tks:=
 if k=1 then(1,s)::(3,eqB)::(e++[(3,b0s)])
 else if k=2 then(1,s)::(3,b1o)::(i++(3,b4p)::(3,eqB)::(e++[(3,b0s)]))
 else if k=3 then(1,s)::(3,eqB)::(1,t)::(3,b0T)::(b4V args++[(3,b0Y),(3,b0s)])
 else if k=4 then[(1,s),(3,eqB),(1,b2P),(3,b0s)]
 else if k=5 then(1,b1R)::(e++[(3,b0s)])
 else if k=6 then(1,ifB)::(e++(3,b0u)::(thn++(3,b0v)::(if ne then(1,b2e)::(3,b0u)::(els++[(3,b0v)]) else[])))
 else(1,b1e)::(e++(3,b0u)::(thn++[(3,b0v)]))
mutual
def TC.toks:TC→Tks
 | .mk k _ s t i e args thn els=>c4N k s t i.toks e.toks (args.map TE.toks) (b1U thn) (b1U els) (decide (els.length≠0))
def b1U:List TC→Tks
 | []=>[]
 | x::xs=>x.toks++b1U xs
end
theorem TC.txt:∀(x:TC),x.ok=true→∀ind:ByteArray,b2c ind []→b2c (x.text ind) x.toks:=by
 intro x;induction x using TC.ind with
 | h k a s t i e args thn els ih1 ih2 =>
  intro hok ind hind
  have hcs:∀l:List TC,(∀x∈l,x.ok=true→∀ind:ByteArray,b2c ind []→b2c (x.text ind) x.toks)→b1l l=true→∀ind:ByteArray,b2c ind []→b2c (b0l l ind) (b1U l):=by
   intro l;induction l with
   | nil=>intro _ _ _ _;exact b2c.emp_
   | cons x l ihl =>
    intro hi ho ind hind;rw[b1l,Bool.and_eq_true] at ho;rw[b0l,b1U];exact(hi x (by simp) ho.1 ind hind).app (ihl (fun y hy=>hi y (by simp[hy])) ho.2 ind hind)
  have h2:b2c (ind++b4S) []:=hind.app c8z;rw[TC.ok] at hok;simp only[Bool.and_eq_true] at hok;obtain⟨⟨⟨⟨⟨⟨⟨hk,hs⟩,ht⟩,hi⟩,he⟩,ha⟩,hT⟩,hE⟩:=hok;replace hk:=of_decide_eq_true hk;rw[TC.text,TC.toks];unfold c4N;have hk':k=1∨k=2∨k=3∨k=4∨k=5∨k=6∨k=7:=by omega
  rcases hk' with rfl | rfl | rfl | rfl | rfl | rfl | rfl
  ·rw[if_pos (by decide)] at hs;rw[if_neg (by decide)] at he;rw[if_pos rfl,if_pos rfl];exact(hind.app ((Txt.name hs).app' (eqO.app ((e.txt he).app c5p (by decide) (by decide))) (by decide) (by decide))).to (by simp)
  ·rw[if_pos (by decide)] at hs;rw[if_neg (by decide)] at he;rw[if_pos rfl] at hi;rw[if_neg (by decide),if_pos rfl,if_neg (by decide),if_pos rfl];exact(hind.app ((Txt.name hs).app' (lsqO.app ((i.txt hi).app' (putO.app ((e.txt he).app c5p (by decide) (by decide))) (by decide) (by decide))) (by decide) (by decide))).to (by simp)
  ·rw[if_pos (by decide)] at hs ht ha;rw[if_neg (by decide),if_neg (by decide),if_pos rfl,if_neg (by decide),if_neg (by decide),if_pos rfl];have hc:=b8Y TE.text TE.toks args (fun x hx=>x.txt (List.all_eq_true.1 ha x hx));exact(hind.app ((Txt.name hs).app' (eqO.app ((Txt.name ht).app' (lparO.app (hc.app calO (by decide) (by decide))) (by decide) (by decide))) (by decide) (by decide))).to (by simp)
  ·rw[if_pos (by decide)] at hs;rw[if_neg (by decide),if_neg (by decide),if_neg (by decide),if_pos rfl,if_neg (by decide),if_neg (by decide),if_neg (by decide),if_pos rfl];exact(hind.app ((Txt.name hs).app rdO (by decide) (by decide))).to (by simp)
  ·rw[if_neg (by decide)] at he;rw[if_neg (by decide),if_neg (by decide),if_neg (by decide),if_neg (by decide),if_pos rfl,if_neg (by decide),if_neg (by decide),if_neg (by decide),if_neg (by decide),if_pos rfl];exact(hind.app (priO.app ((e.txt he).app c5p (by decide) (by decide)))).to (by simp)
  ·rw[if_neg (by decide)] at he;rw[if_pos (by decide)] at hT hE;have hT':=hcs thn ih1 hT _ h2;have hE':=hcs els ih2 hE _ h2;by_cases hl:els.length=0
   ·rw[if_pos hl,decide_eq_false (by simpa using hl)];rw[if_neg (by decide),if_neg (by decide),if_neg (by decide),if_neg (by decide),if_neg (by decide),if_pos rfl,if_neg (by decide),if_neg (by decide),if_neg (by decide),if_neg (by decide),if_neg (by decide),if_pos rfl,if_neg (by decide)];exact(hind.app (iffO.app ((e.txt he).app' (c8Z.app (hT'.app (b2c.emp_.app (hind.app c7Z)))) (by decide) (by decide)))).to (by simp)
   ·rw[if_neg hl,decide_eq_true hl];rw[if_neg (by decide),if_neg (by decide),if_neg (by decide),if_neg (by decide),if_neg (by decide),if_pos rfl,if_neg (by decide),if_neg (by decide),if_neg (by decide),if_neg (by decide),if_neg (by decide),if_pos rfl,if_pos rfl];exact(hind.app (iffO.app ((e.txt he).app' (c8Z.app (hT'.app ((hind.app (elsO.app hE')).app (hind.app c7Z)))) (by decide) (by decide)))).to (by simp)
  ·rw[if_neg (by decide)] at he;rw[if_pos (by decide)] at hT;rw[if_neg (by decide),if_neg (by decide),if_neg (by decide),if_neg (by decide),if_neg (by decide),if_neg (by decide),if_neg (by decide),if_neg (by decide),if_neg (by decide),if_neg (by decide),if_neg (by decide),if_neg (by decide)];have hT':=hcs thn ih1 hT _ h2;exact(hind.app (whiO.app ((e.txt he).app' (c8Z.app (hT'.app (hind.app c7Z))) (by decide) (by decide)))).to (by simp)
theorem b8I:∀(l:List TC),l.all TC.ok=true→∀ind:ByteArray,b2c ind []→b2c (b0l l ind) (b1U l)
 | [],_,_,_=>b2c.emp_
 | x::l,h,ind,hind=>by
  rw[List.all_cons,Bool.and_eq_true] at h;rw[b0l,b1U];exact(x.txt h.1 ind hind).app (b8I l h.2 ind hind)
def TV.toks(v:TV):Tks:=if v.size=0 then[(1,b7d),(1,v.name),(3,b0s)] else[(1,b5t),(1,v.name),(2,b2m v.size.toNat),(3,b0s)]
def b3l:List TV→Tks
 | []=>[]
 | v::l=>v.toks++b3l l
theorem TV.txt{v:TV}(h:v.ok=true):b2c v.text v.toks:=by
 unfold TV.ok at h;rw[Bool.and_eq_true,decide_eq_true_eq] at h;unfold TV.text TV.toks;by_cases h0:v.size=0
 ·rw[if_pos h0,if_pos h0];exact vaO.app ((Txt.name h.1).app c5p (by decide) (by decide))
 ·rw[if_neg h0,if_neg h0]
  have hn:Txt (b6a v.size) [(2,b2m v.size.toNat)]:=by
   have:=Txt.num (n:=v.size) (by omega);rw[b7O,if_neg (by omega)] at this;exact this
  exact arO.app ((Txt.name h.1).app' (spO.app (hn.app c5p (by decide) (by decide))) (by decide) (by decide))
theorem b8K:∀l:List TV,l.all TV.ok=true→b2c (b2A l) (b3l l)
 | [],_=>b2c.emp_
 | v::l,h=>by
  rw[List.all_cons,Bool.and_eq_true] at h;rw[b2A,b3l];exact(TV.txt h.1).app (b8K l h.2)
def TF.toks(f:TF)(main:Bool):Tks:=
 (if main then[(1,b3b),(3,b0u)] else(1,b2b)::(1,f.name)::(3,b0T)::(b4V (f.params.map fun s=>[(1,s)])++[(3,b0Y),(3,b0u)]))++(b3l f.vars++(b1U f.cmds++((if main then[] else(1,b1A)::(f.result.toks++[(3,b0s)]))++[(3,b0v)])))
def b3k:List TF→Tks
 | []=>[]
 | f::l=>f.toks (decide (l.length=0))++b3k l
theorem TF.txt{f:TF}{main:Bool}(h:f.ok main=true):b2c (f.text main) (f.toks main):=by
 unfold TF.ok at h;simp only[Bool.and_eq_true] at h;obtain⟨⟨⟨h1,h2⟩,h3⟩,h4⟩:=h;have hv:=b8K f.vars h3;have hc:=b8I f.cmds h4 b4S c8z;unfold TF.text TF.toks;cases main with
 | true=>exact maiO.app (hv.app (hc.app (b2c.emp_.app c7Z)))
 | false =>
  simp only[Bool.false_eq_true,if_false,Bool.and_eq_true] at h1 ⊢;have hp:=b8Y (fun s:ByteArray=>s) (fun s=>[((1:Int),s)]) f.params (fun s hs=>Txt.name (List.all_eq_true.1 h2 s hs));rw[List.map_id'] at hp;exact((funO.app ((Txt.name h1.1).app' (lparO.app (hp.app hedO (by decide) (by decide))) (by decide) (by decide))).app (hv.app (hc.app ((retO.app ((f.result.txt h1.2).app c5p (by decide) (by decide))).app c7Z)))).to (by simp)
theorem b8J:∀l:List TF,b4R l=true→b2c (b1Z l) (b3k l)
 | [],_=>b2c.emp_
 | [f],h=>by
  rw[b1Z,b3k];exact(TF.txt h).app b2c.emp_
 | f::g::l,h=>by
  rw[b4R,Bool.and_eq_true] at h;rw[b1Z,b3k];exact(TF.txt h.1).app (b8J (g::l) h.2)
theorem c0a{l:List TF}(h:b4R l=true)(hs:(b1Z l).size≤6000):∃m,b0N (b1Z l)=(m,0,0)∧m.map key=b3k l:=by
 obtain⟨m,e1,e2⟩:=b8J l h (b1Z l) 0 (c4V.self _) [];refine⟨m,?_,e2⟩;unfold b0N;rw[if_neg (by omega),e1,Nat.zero_add,b3g (by omega),List.nil_append]
def Ats(l:List Tok)(p:Nat)(ts:Tks):Prop:=∀j x,ts[j]? = some x→(l[p+j]?).map key=some x
section
variable {l:List Tok}{p:Nat}{a b ts:Tks}{x:Int×ByteArray}
theorem Ats.app(h:Ats l p (a++b)):Ats l p a∧Ats l (p+a.length) b:=by
 refine⟨fun j x hx=>h j x ?_,fun j x hx=>?_⟩
 ·have hj:=(List.getElem?_eq_some_iff.1 hx).1;rw[List.getElem?_append_left hj];exact hx
 ·have:=h (a.length+j) x (by rw[List.getElem?_append_right (by omega),Nat.add_sub_cancel_left];exact hx);rw[Nat.add_assoc];exact this
theorem Ats.tail(h:Ats l p (x::ts)):Ats l (p+1) ts:=Ats.app (a:=[x]) (b:=ts) h |>.2
theorem Ats.head(h:Ats l p (x::ts)):tx l p false=x.2:=by
 have:=h 0 x rfl;rw[Nat.add_zero] at this;unfold tx;rw[if_neg (by decide)];cases ht:l[p]? with
 | none=>rw[ht] at this;cases this
 | some t =>
  rw[ht] at this;have e:key t=x:=Option.some.inj this;rw[←e];rfl
theorem Ats.len(h:Ats l p ts)(hp:p≤l.length):p+ts.length≤l.length:=by
 by_cases h0:ts.length=0
 ·omega
 ·have hj:ts.length-1<ts.length:=by omega
  have:=h (ts.length-1) _ (List.getElem?_eq_getElem hj);cases ht:l[p+(ts.length-1)]? with
  | none=>rw[ht] at this;cases this
  | some t =>
   have:=(List.getElem?_eq_some_iff.1 ht).1;omega
end
theorem c1i(u:Nat):(Lib.decDigits u).foldl (fun(n:Int) b=>10*n+(b.toNat:Int)-48) 0=u:=by
 induction u using Nat.strongRecOn with
 | _ u ih =>
  by_cases h:u<10
  ·have e1:u=0∨u=1∨u=2∨u=3∨u=4∨u=5∨u=6∨u=7∨u=8∨u=9:=by omega
   rw[Lib.decDigits_one h];rcases e1 with rfl | rfl | rfl | rfl | rfl | rfl | rfl | rfl | rfl | rfl<;>rfl
  ·rw[Lib.decDigits,dif_neg h,List.foldl_append,ih (u / 10) (by omega)]
   have e2:(UInt8.ofNat (48+u % 10)).toNat=48+u % 10:=by
    rw[UInt8.toNat_ofNat'];omega
   simp only[List.foldl_cons,List.foldl_nil,e2];omega
theorem b7N(u:Nat):c0E (b2m u)=u:=c1i u
theorem b8f{u:Nat}{s:ByteArray}(h:bt s 0<48∨57<bt s 0):b2m u≠s:=fun e=>by
 obtain⟨h1,h2,-⟩:=b4H u;have:=h2 0 (by omega);rw[e] at this;omega
theorem b9M{u:Nat}(h:0<u):b2m u≠b3C:=fun e=>by
 have:=(b4H u).2.2.2 h;rw[e] at this;exact this (by decide)
theorem b4W(u:Nat):b3i (b2m u)=true:=by
 obtain⟨h1,h2,-⟩:=b4H u;have h3:=h2 0 (by omega);have h5:decide (b2m u≠emp)=true:=decide_eq_true fun e=>by rw[e] at h1;exact absurd h1 (by decide)
 unfold b3i;rw[h5];simp only[isD,Bool.true_and,Bool.and_eq_true,decide_eq_true_eq];omega
theorem c1t{s:ByteArray}(h:b0H s=true):isL (bt s 0)=true:=by
 obtain⟨_,h2,_,_⟩:=c3a.1 (b8o h).1;rw[b1j] at h2;cases hL:isL (bt s 0) with
 | true=>rfl
 | false =>
  rw[hL,if_neg (by decide)] at h2;split at h2
  ·simp at h2
  ·split at h2
   ·simp at h2
   ·split at h2<;>simp at h2
theorem b7K{s:ByteArray}(h:b0H s=true):b3i s=false:=by
 have h1:=c1t h;unfold b3i
 have:isD (bt s 0)=false:=by
  cases hD:isD (bt s 0) with
  | false=>rfl
  | true =>
   simp only[isD,isL,Bool.and_eq_true,decide_eq_true_eq] at hD h1;omega
 rw[this,Bool.and_false]
theorem b2s{s t:ByteArray}(h:b0H s=true)(ht:b0H t=false):s≠t:=fun e=>by rw[e,ht] at h;cases h
theorem c1c(u:Nat):b0H (b2m u)=false:=by
 cases h:b0H (b2m u) with
 | false=>rfl
 | true=>have:=b7K h;rw[b4W] at this;cases this
theorem b5j(k a a' n:Int)(s:ByteArray):(TE.mk k a n s []).same false (.mk k a' n s [])=true:=by
 rw[TE.same,b0q];simp
theorem b8V(e:TE):1≤e.cnt:=by
 obtain⟨k,a,n,s,args⟩:=e;rw[TE.cnt];omega
section
variable {l:List Tok}{E:Nat}
theorem b2F:∀e:TE,e.ok=true→∀(d p:Nat),e.cnt≤d+1→Ats l p e.toks→tx l (p+e.toks.length) false≠b1o→∃e',b0K l E d (p,false)=(e',(p+e.toks.length,false))∧e.same false e'=true:=
 TE.ind fun k a n s args ih h d p hd hat hn=>by
  rw[TE.toks,b5A] at hat hn ⊢;rcases TE.ok_cases h with⟨rfl,rfl,rfl,hn9⟩ | ⟨rfl,rfl,hs,rfl⟩ | ⟨rfl,⟨x,rfl,hx⟩,hs,rfl⟩ | ⟨⟨i,hi,rfl⟩,⟨x,y,rfl,hx,hy⟩,rfl,rfl⟩
  ·have e1:b4C 1 n emp (List.map TE.toks [])=b7O n:=rfl;rw[e1] at hat hn ⊢;unfold b7O at hat hn ⊢;by_cases h0:n<0
   ·rw[if_pos h0] at hat hn ⊢;have t0:tx l p false=b1n:=hat.head;have t1:tx l (p+1) false=b2m n.natAbs:=hat.tail.head;refine⟨.mk 1 (place l E p) n emp [],?_,b5j ..⟩;rw[b2o (by rw[t0];decide) t0,b0G t0,decide_eq_false (by rw[t1];exact b9M (by omega)),b3Y,b5b (by rw[t1];exact b4W _),t1,b7N];have e2:-((n.natAbs:Nat):Int)=n:=by omega
    rw[e2];rfl
   ·rw[if_neg h0] at hat hn ⊢;have t0:tx l p false=b2m n.toNat:=hat.head;refine⟨.mk 1 (place l E p) n emp [],?_,b5j ..⟩;rw[b3X (by rw[t0];exact b8f (Or.inl (by decide))) (by rw[t0];exact b8f (Or.inl (by decide))) (by rw[t0];exact b4W _),b5b (by rw[t0];exact b4W _),t0,b7N];have e2:((n.toNat:Nat):Int)=n:=by omega
    rw[e2];rfl
  ·have e1:b4C 2 0 s (List.map TE.toks [])=[(1,s)]:=rfl;rw[e1] at hat hn ⊢;have t0:tx l p false=s:=hat.head;have hnm:b0D l (p,false)=(s,(p+1,false)):=by rw[b0j (by rw[t0];exact hs),t0]
   refine⟨.mk 2 (place l E p) 0 s [],?_,b5j ..⟩;rw[b2K (by rw[t0];exact b2s hs (by decide +kernel)) (by rw[t0];exact b2s hs (by decide +kernel)) (by rw[t0];exact b7K hs) (by rw[hnm];exact hn),hnm];rfl
  ·have e1:b4C 3 0 s (List.map TE.toks [x])=(1,s)::(3,b1o)::(x.toks++[(3,b4p)]):=rfl;rw[e1] at hat hn ⊢;have t0:tx l p false=s:=hat.head;have t1:tx l (p+1) false=b1o:=hat.tail.head;obtain⟨h3,h4⟩:=hat.tail.tail.app;have t2:tx l (p+1+1+x.toks.length) false=b4p:=h4.head;have hnm:b0D l (p,false)=(s,(p+1,false)):=by rw[b0j (by rw[t0];exact hs),t0]
   have hc:(TE.mk 3 a 0 s [x]).cnt=1+x.cnt:=by rw[TE.cnt,TE.cnt.cntE,TE.cnt.cntE];omega
   have hx1:=b8V x;obtain⟨d,rfl⟩:∃e,d=e+1:=⟨d-1,by omega⟩;obtain⟨x',g1,g2⟩:=ih x (by simp) hx d (p+1+1) (by omega) h3 (by rw[t2];decide);refine⟨.mk 3 (place l E p) 0 s [x'],?_,?_⟩
   ·rw[b2n (by rw[t0];exact b2s hs (by decide +kernel)) (by rw[t0];exact b2s hs (by decide +kernel)) (by rw[t0];exact b7K hs) (by rw[hnm];exact t1),hnm,b0G t1,g1,b0G t2];simp only[List.length_cons,List.length_append,List.length_nil]
    congr 2
    omega
   ·rw[TE.same,b0q,b0q,g2];simp
  ·have e1:b4C (4+(i:Int)) 0 emp (List.map TE.toks [x,y])=(3,b0T)::(x.toks++((3,opB i)::(y.toks++[(3,b0Y)]))):=by
    unfold b4C;rw[if_neg (by omega),if_neg (by omega),if_neg (by omega),show(4+(i:Int)-4).toNat=i by omega];rfl
   rw[e1] at hat hn ⊢;have t0:tx l p false=b0T:=hat.head;obtain⟨h3,h4⟩:=hat.tail.app;have t2:tx l (p+1+x.toks.length) false=opB i:=h4.head;obtain⟨h5,h6⟩:=h4.tail.app;have t3:tx l (p+1+x.toks.length+1+y.toks.length) false=b0Y:=h6.head;have hc:(TE.mk (4+(i:Int)) a 0 emp [x,y]).cnt=1+(x.cnt+y.cnt):=by rw[TE.cnt,TE.cnt.cntE,TE.cnt.cntE,TE.cnt.cntE];omega
   have hx1:=b8V x;have hy1:=b8V y;obtain⟨d,rfl⟩:∃e,d=e+1:=⟨d-1,by omega⟩;have hop:∀i:Fin 7,opB i.val≠b1o:=by decide
   obtain⟨x',g1,g2⟩:=ih x (by simp) hx d (p+1) (by omega) h3 (by rw[t2];exact hop ⟨i,hi⟩);obtain⟨y',g3,g4⟩:=ih y (by simp) hy d (p+1+x.toks.length+1) (by omega) h5 (by rw[t3];decide);have ho:opD l (p+1+x.toks.length,false)=some i:=c0F hi t2
   have hS:opS l (p+1+x.toks.length,false)=(p+1+x.toks.length+1,false):=by
    unfold opS;rw[ho];exact b0G t2
   refine⟨.mk (4+(i:Int)) (place l E p) 0 emp [x',y'],?_,?_⟩
   ·rw[b2p t0,b0G t0,g1];simp only[];rw[hS,g3];simp only[];rw[b0G t3,b8s,ho];simp only[List.length_cons,List.length_append,List.length_nil]
    congr 2
    omega
   ·rw[TE.same,b0q,b0q,b0q,g2,g4];simp
theorem c3R{e:TE}(h:e.ok=true){p:Nat}(hat:Ats l p e.toks)(hn:tx l (p+e.toks.length) false≠b0T):tx l p false≠b2P∧¬(b0H (tx l p false)=true∧tx l (p+1) false=b0T):=by
 obtain⟨k,a,n,s,args⟩:=e;rw[TE.toks,b5A] at hat hn;rcases TE.ok_cases h with⟨rfl,rfl,rfl,hn9⟩ | ⟨rfl,rfl,hs,rfl⟩ | ⟨rfl,⟨x,rfl,hx⟩,hs,rfl⟩ | ⟨⟨i,hi,rfl⟩,⟨x,y,rfl,hx,hy⟩,rfl,rfl⟩
 ·have e1:b4C 1 n emp (List.map TE.toks [])=b7O n:=rfl;rw[e1] at hat hn;unfold b7O at hat hn;by_cases h0:n<0
  ·rw[if_pos h0] at hat;have t0:tx l p false=b1n:=hat.head;rw[t0];exact⟨by decide,fun⟨h,_⟩=>absurd h (by decide +kernel)⟩
  ·rw[if_neg h0] at hat;have t0:tx l p false=b2m n.toNat:=hat.head;rw[t0];exact⟨b8f (Or.inr (by decide)),fun⟨h,_⟩=>by rw[c1c] at h;cases h⟩
 ·have e1:b4C 2 0 s (List.map TE.toks [])=[(1,s)]:=rfl;rw[e1] at hat hn;have t0:tx l p false=s:=hat.head;rw[t0];exact⟨b2s hs (by decide +kernel),fun⟨_,h⟩=>hn h⟩
 ·have e1:b4C 3 0 s (List.map TE.toks [x])=(1,s)::(3,b1o)::(x.toks++[(3,b4p)]):=rfl;rw[e1] at hat;have t0:tx l p false=s:=hat.head;have t1:tx l (p+1) false=b1o:=hat.tail.head;rw[t0,t1];exact⟨b2s hs (by decide +kernel),fun⟨_,h⟩=>absurd h (by decide)⟩
 ·have e1:b4C (4+(i:Int)) 0 emp (List.map TE.toks [x,y])=(3,b0T)::(x.toks++((3,opB i)::(y.toks++[(3,b0Y)]))):=by
   unfold b4C;rw[if_neg (by omega),if_neg (by omega),if_neg (by omega),show(4+(i:Int)-4).toNat=i by omega];rfl
  rw[e1] at hat;have t0:tx l p false=b0T:=hat.head;rw[t0];exact⟨by decide,fun⟨h,_⟩=>absurd h (by decide +kernel)⟩
end
end Go.Proofs.YtmfjlcpjemccmaaGreatDoor
