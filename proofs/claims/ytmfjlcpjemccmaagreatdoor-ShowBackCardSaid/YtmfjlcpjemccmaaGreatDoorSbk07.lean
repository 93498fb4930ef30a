/- The texts of trees in plain words, and how long they may be. Each lemma states its own conditions. -/
import Derived.Test.YtmfjlcpjemccmaaGreatDoorSbk06
namespace Go.Proofs.YtmfjlcpjemccmaaGreatDoor
open Go.RowKit
abbrev spB:ByteArray:=⟨#[32]⟩
def c0Y(k n:Int)(s:ByteArray)(l:List ByteArray):ByteArray:=
 if k=1 then b6a n else if k=2 then s else if k=3 then((s++b1o)++l.getD 0 emp)++b4p
 else(((((b0T++l.getD 0 emp)++spB)++opB (k-4).toNat)++spB)++l.getD 1 emp)++b0Y
mutual
def TE.text:TE→ByteArray
 | .mk k _ n s args=>c0Y k n s (c1P args)
def c1P:List TE→List ByteArray
 | []=>[]
 | x::xs=>x.text::c1P xs
end
theorem b6G(l:List TE):c1P l=l.map TE.text:=by
 induction l with
 | nil=>rfl
 | cons x xs ih=>rw[c1P,ih,List.map_cons]
def TE.cnt:TE→Nat
 | .mk _ _ _ _ args=>1+cntE args
where cntE:List TE→Nat
 | []=>0
 | x::xs=>x.cnt+cntE xs
theorem c4F{xs:List TE}(h:∀x∈xs,∀m,0≤m→x.size m≤m→x.size m=x.cnt)(hl:∀x∈xs,∀m,0≤m→1≤x.size m∧x.size m≤m+1):∀(a m:Int),1≤a→a≤m+1→b2t xs a m≤m→b2t xs a m=a+TE.cnt.cntE xs:=by
 induction xs with
 | nil=>intro a m _ _ _;rw[b2t,TE.cnt.cntE];omega
 | cons x xs ih =>
  intro a m h1 h2 h3;rw[b2t] at h3 ⊢;rw[TE.cnt.cntE];by_cases hm:m<a
  ·rw[if_pos hm] at h3;omega
  ·rw[if_neg hm] at h3 ⊢;obtain⟨h4,h5⟩:=hl x (by simp) (m-a) (by omega);by_cases h6:x.size (m-a)≤m-a
   ·have h7:=h x (by simp) (m-a) (by omega) h6;rw[ih (fun y hy=>h y (by simp[hy])) (fun y hy=>hl y (by simp[hy])) _ _ (by omega) (by omega) h3,h7];omega
   ·exfalso;have h8:a+x.size (m-a)=m+1:=by omega
    rw[h8] at h3;cases xs with
    | nil=>rw[b2t] at h3;omega
    | cons y ys=>rw[b2t,if_pos (by omega)] at h3;omega
theorem TE.size_cnt:∀(q:TE) (m:Int),0≤m→q.size m≤m→q.size m=q.cnt:=
 TE.ind fun k a n s args ih m hm h=>by
  rw[TE.size] at h ⊢;rw[c4F ih (fun x _ m hm=>TE.size_le x m hm) 1 m (by omega) (by omega) h,TE.cnt];omega
theorem b7C{e:TE}(h:e.great=false):e.cnt≤15:=by
 have h1:e.size 15≤15:=by have:=of_decide_eq_false h;omega
 have:=TE.size_cnt e 15 (by decide) h1;omega
theorem b1k{s:ByteArray}(h:b0H s=true):s.size≤12:=by
 unfold b0H at h
 have h1:b1T 1 s=true:=by
  cases hh:b1T 1 s with
  | true=>rfl
  | false=>rw[hh] at h;simp at h
 obtain⟨h2,h3,h4,h5⟩:=c3a.1 h1;unfold b1I at h5;have h7:(b0X s 0).1=1:=by omega
 rw[h7,h4] at h5;by_cases h6:12<s.size
 ·rw[if_neg (by decide),if_pos (Or.inl ⟨rfl,h6⟩)] at h5;cases h5
 ·omega
theorem TE.text_size:∀e:TE,e.ok=true→e.text.size≤14*e.cnt:=
 TE.ind fun k a n s args ih h=>by
  rw[TE.ok,b5c,Bool.and_eq_true,Bool.and_eq_true,Bool.and_eq_true,List.all_eq_true] at h;obtain⟨⟨⟨h1,h2⟩,h3⟩,h4⟩:=h;replace h1:=of_decide_eq_true h1;have hx:∀(i:Nat) (x:TE),args[i]? = some x→x.text.size≤14*x.cnt:=fun i x hi=>ih x (List.mem_of_getElem? hi) (h4 x (List.mem_of_getElem? hi));rw[TE.text,b6G,TE.cnt];unfold c0Y;unfold b1p at h1;split
  ·rename_i hk
   rw[if_pos hk] at h3;have:=b9N (of_decide_eq_true h3);omega
  ·rename_i hk1
   split
   ·rename_i hk
    rw[if_pos (Or.inl hk)] at h2;have:=b1k h2;omega
   ·rename_i hk2
    split
    ·rename_i hk
     rw[if_pos (Or.inr hk)] at h2;have h5:=b1k h2;subst hk;have hl:args.length=1:=by simp at h1;omega
     obtain⟨x,rfl⟩:∃x,args=[x]:=List.length_eq_one_iff.1 hl;have h6:=hx 0 x rfl;simp only[List.map_cons,List.map_nil,List.getD_cons_zero,ByteArray.size_append,TE.cnt.cntE];have e1:b1o.size=1:=rfl;have e2:b4p.size=1:=rfl;omega
    ·rename_i hk3
     have hl:args.length=2:=by
      split at h1
      ·omega
      ·split at h1<;>omega
     obtain⟨x,y,rfl⟩:∃x y,args=[x,y]:=by
      match args,hl with
      | [x,y],_=>exact⟨x,y,rfl⟩
     have h6:=hx 0 x rfl;have h7:=hx 1 y rfl
     have h8:(opB (k-4).toNat).size≤2:=by
      generalize(k-4).toNat=j;unfold opB c8x
      match j with
      | 0=>decide
      | 1=>decide
      | 2=>decide
      | 3=>decide
      | 4=>decide
      | 5=>decide
      | 6=>decide
      | j+7=>exact Nat.zero_le _
     simp only[List.map_cons,List.map_nil,List.getD_cons_zero,List.getD_cons_succ,ByteArray.size_append,TE.cnt.cntE];have e1:b0T.size=1:=rfl;have e2:b0Y.size=1:=rfl;have e3:spB.size=1:=rfl;omega
def b2Z:List ByteArray→ByteArray
 | []=>emp
 | [x]=>x
 | x::y::l=>x++(⟨#[44,32]⟩++b2Z (y::l))
abbrev isB:ByteArray:=⟨#[32,61,32]⟩
abbrev b7f:ByteArray:=⟨#[59,10]⟩
abbrev c7n:ByteArray:=⟨#[93,32,61,32]⟩
abbrev c7Y:ByteArray:=⟨#[41,59,10]⟩
abbrev rdB:ByteArray:=⟨#[32,61,32,114,101,97,100,59,10]⟩
abbrev c7m:ByteArray:=⟨#[112,114,105,110,116,32]⟩
abbrev c7d:ByteArray:=⟨#[105,102,32]⟩
abbrev c5U:ByteArray:=⟨#[32,123,10]⟩
abbrev c7c:ByteArray:=⟨#[125,32,101,108,115,101,32,123,10]⟩
abbrev c4X:ByteArray:=⟨#[125,10]⟩
abbrev c8C:ByteArray:=⟨#[119,104,105,108,101,32]⟩
abbrev b4S:ByteArray:=⟨#[32,32]⟩
mutual
def TC.text:TC→ByteArray→ByteArray
 | .mk k _ s t i e args thn els,ind =>
  if k=1 then ind++(s++(isB++(e.text++b7f)))
  else if k=2 then ind++(s++(b1o++(i.text++(c7n++(e.text++b7f)))))
  else if k=3 then ind++(s++(isB++(t++(b0T++(b2Z (args.map TE.text)++c7Y)))))
  else if k=4 then ind++(s++rdB)
  else if k=5 then ind++(c7m++(e.text++b7f))
  else if k=6 then ind++(c7d++(e.text++(c5U++(b0l thn (ind++b4S)++((if els.length=0 then emp else ind++(c7c++b0l els (ind++b4S)))++(ind++c4X))))))
  else ind++(c8C++(e.text++(c5U++(b0l thn (ind++b4S)++(ind++c4X)))))
def b0l:List TC→ByteArray→ByteArray
 | [],_=>emp
 | x::xs,ind=>x.text ind++b0l xs ind
end
theorem TC.text_eq(x:TC)(ind:ByteArray):x.text ind=
  if x.kind=1 then ind++(x.name++(isB++(x.expr.text++b7f)))
  else if x.kind=2 then ind++(x.name++(b1o++(x.index.text++(c7n++(x.expr.text++b7f)))))
  else if x.kind=3 then ind++(x.name++(isB++(x.other++(b0T++(b2Z (x.args.map TE.text)++c7Y)))))
  else if x.kind=4 then ind++(x.name++rdB)
  else if x.kind=5 then ind++(c7m++(x.expr.text++b7f))
  else if x.kind=6 then ind++(c7d++(x.expr.text++(c5U++(b0l x.thn (ind++b4S)++((if x.els.length=0 then emp else ind++(c7c++b0l x.els (ind++b4S)))++(ind++c4X))))))
  else ind++(c8C++(x.expr.text++(c5U++(b0l x.thn (ind++b4S)++(ind++c4X))))):=by
 cases x;rw[TC.text];rfl
theorem b7p{l:List ByteArray}{m:Nat}(h:∀x∈l,x.size≤m):(b2Z l).size≤l.length*(m+2):=by
 induction l with
 | nil=>exact Nat.zero_le _
 | cons x l ih =>
  have hx:=h x (by simp);have h2:=ih fun y hy=>h y (by simp[hy]);rw[List.length_cons,Nat.add_mul,Nat.one_mul];cases l with
  | nil=>rw[b2Z];omega
  | cons y l =>
   rw[b2Z,ByteArray.size_append,ByteArray.size_append];have e:(⟨#[44,32]⟩:ByteArray).size=2:=rfl;omega
theorem b5N{l:List TC}(h:∀x∈l,∀(d:Int) (ind:ByteArray),x.ok=true→x.fine d=true→d≤5→(ind.size:Int)≤2*d→(x.text ind).size≤800*x.cnt){d:Int}{ind:ByteArray}(h1:b1l l=true)(h2:b1H l d=true)(h3:(ind.size:Int)≤2*d):(b0l l ind).size≤800*b1S l:=by
 induction l with
 | nil=>exact Nat.zero_le _
 | cons x l ih =>
  rw[b1l,Bool.and_eq_true] at h1;rw[b1H,Bool.and_eq_true,Bool.and_eq_true,decide_eq_true_eq] at h2;have h4:=h x (by simp) d ind h1.1 h2.1.2 h2.1.1 h3;have h5:=ih (fun y hy=>h y (by simp[hy])) h1.2 h2.2;rw[b0l,b1S,ByteArray.size_append];omega
theorem TC.text_size:∀(x:TC) (d:Int) (ind:ByteArray),x.ok=true→x.fine d=true→d≤5→(ind.size:Int)≤2*d→(x.text ind).size≤800*x.cnt:=by
 intro x;induction x using TC.ind with
 | h k a s t i e args thn els ih1 ih2 =>
  intro d ind hok hf hd hind;rw[TC.ok] at hok;rw[TC.fine] at hf;simp only[Bool.and_eq_true] at hok hf;obtain⟨⟨⟨⟨⟨⟨⟨hk,hs⟩,ht⟩,hi⟩,he⟩,ha⟩,hT⟩,hE⟩:=hok;obtain⟨⟨⟨⟨⟨gi,ge⟩,ga⟩,gaa⟩,gT⟩,gE⟩:=hf;replace hk:=of_decide_eq_true hk;replace ga:=of_decide_eq_true ga;replace gi:=Bool.not_eq_true' _▸gi;replace ge:=Bool.not_eq_true' _▸ge;replace gaa:=Bool.not_eq_true' _▸gaa;have htw:(ind++b4S).size=ind.size+2:=by rw[ByteArray.size_append];rfl
  have hee:∀{x:TE},x.great=false→x.ok=true→x.text.size≤210:=fun g o=>by
   have:=TE.text_size _ o;have:=b7C g;omega
  have hTs:b1l thn=true→(b0l thn (ind++b4S)).size≤800*b1S thn:=fun o=>b5N ih1 o gT (by omega);have hEs:b1l els=true→(b0l els (ind++b4S)).size≤800*b1S els:=fun o=>b5N ih2 o gE (by omega);rw[TC.text,TC.cnt];have e1:isB.size=3:=rfl;have e2:b7f.size=2:=rfl;have e3:c7n.size=4:=rfl;have e4:c7Y.size=3:=rfl;have e5:rdB.size=9:=rfl;have e6:c7m.size=6:=rfl;have e7:c7d.size=3:=rfl;have e8:c5U.size=3:=rfl;have e9:c7c.size=9:=rfl;have e10:c4X.size=2:=rfl;have e11:c8C.size=6:=rfl;have e12:b1o.size=1:=rfl;have e13:b0T.size=1:=rfl;have hk':k=1∨k=2∨k=3∨k=4∨k=5∨k=6∨k=7:=by omega
  rcases hk' with rfl | rfl | rfl | rfl | rfl | rfl | rfl
  ·rw[if_pos (by decide)] at hs;rw[if_neg (by decide)] at he;have:=b1k hs;have:=hee ge he;simp only[if_true,ByteArray.size_append];omega
  ·rw[if_pos (by decide)] at hs;rw[if_neg (by decide)] at he;rw[if_pos (by decide)] at hi;have:=b1k hs;have:=hee ge he;have:=hee gi hi;rw[if_neg (by decide),if_pos rfl];simp only[ByteArray.size_append];omega
  ·rw[if_pos (by decide)] at hs ht ha;have:=b1k hs;have:=b1k ht
   have hcs:(b2Z (args.map TE.text)).size≤(args.map TE.text).length*(210+2):=b7p fun x hx=>by
    obtain⟨y,hy,rfl⟩:=List.mem_map.1 hx;refine hee ?_ (List.all_eq_true.1 ha y hy);cases hg:y.great with
    | false=>rfl
    | true=>rw[List.any_eq_true.2 ⟨y,hy,hg⟩] at gaa;cases gaa
   rw[List.length_map] at hcs;rw[if_neg (by decide),if_neg (by decide),if_pos rfl];simp only[ByteArray.size_append];omega
  ·rw[if_pos (by decide)] at hs;have:=b1k hs;rw[if_neg (by decide),if_neg (by decide),if_neg (by decide),if_pos rfl];simp only[ByteArray.size_append];omega
  ·rw[if_neg (by decide)] at he;have:=hee ge he;rw[if_neg (by decide),if_neg (by decide),if_neg (by decide),if_neg (by decide),if_pos rfl];simp only[ByteArray.size_append];omega
  ·rw[if_neg (by decide)] at he;rw[if_pos (by decide)] at hT hE;have:=hee ge he;have:=hTs hT;have:=hEs hE;rw[if_neg (by decide),if_neg (by decide),if_neg (by decide),if_neg (by decide),if_neg (by decide),if_pos rfl];have e0:emp.size=0:=rfl;split
   ·simp only[ByteArray.size_append];omega
   ·simp only[ByteArray.size_append];omega
  ·rw[if_neg (by decide)] at he;rw[if_pos (by decide)] at hT;have:=hee ge he;have:=hTs hT;rw[if_neg (by decide),if_neg (by decide),if_neg (by decide),if_neg (by decide),if_neg (by decide),if_neg (by decide)];simp only[ByteArray.size_append];omega
theorem b9l{l:List TC}{d:Int}{ind:ByteArray}(h1:b1l l=true)(h2:b1H l d=true)(h3:(ind.size:Int)≤2*d):(b0l l ind).size≤800*b1S l:=
 b5N (fun x _=>TC.text_size x) h1 h2 h3
abbrev c8H:ByteArray:=⟨#[109,97,105,110,32,123,10]⟩
abbrev c8F:ByteArray:=⟨#[102,117,110,99,32]⟩
abbrev c8G:ByteArray:=⟨#[41,32,123,10]⟩
abbrev vaB:ByteArray:=⟨#[32,32,118,97,114,32]⟩
abbrev arB:ByteArray:=⟨#[32,32,97,114,114,32]⟩
abbrev c8J:ByteArray:=⟨#[32,32,114,101,116,117,114,110,32]⟩
def TV.text(v:TV):ByteArray:=if v.size=0 then vaB++(v.name++b7f) else arB++(v.name++(spB++(b6a v.size++b7f)))
def b2A:List TV→ByteArray
 | []=>emp
 | v::vs=>v.text++b2A vs
def TF.text(f:TF)(main:Bool):ByteArray:=
 (if main then c8H else c8F++(f.name++(b0T++(b2Z f.params++c8G))))++(b2A f.vars++(b0l f.cmds b4S++((if main then emp else c8J++(f.result.text++b7f))++c4X)))
def b1Z:List TF→ByteArray
 | []=>emp
 | f::l=>f.text (decide (l.length=0))++b1Z l
end Go.Proofs.YtmfjlcpjemccmaaGreatDoor
