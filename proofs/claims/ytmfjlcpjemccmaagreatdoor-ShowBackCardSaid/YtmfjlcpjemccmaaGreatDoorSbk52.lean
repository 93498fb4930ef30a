/- The words of commands are parsed to them: plain words. Each lemma states its own conditions. -/
import Derived.Test.YtmfjlcpjemccmaaGreatDoorSbk51
namespace Go.Proofs.YtmfjlcpjemccmaaGreatDoor
open Go.RowKit
def b4T:List Tks→Tks
 | []=>[]
 | x::l=>(3,b0e)::(x++b4T l)
theorem b5v:∀(x:Tks) (l:List Tks),b4V (x::l)=x++b4T l
 | x,[]=>by rw[b4V,b4T,List.append_nil]
 | x,y::l=>by rw[b4V,b5v y l,b4T]
theorem b2T{i:TE}(h:i.none_=true):i.same false b1P=true:=by
 obtain⟨k,a,n,s,args⟩:=i;unfold TE.none_ at h;simp only[Bool.and_eq_true,decide_eq_true_eq] at h;obtain⟨⟨⟨rfl,rfl⟩,rfl⟩,h⟩:=h;obtain rfl:=List.eq_nil_of_length_eq_zero h;exact b5j ..
theorem b2i:b0q false [] []=true:=by rw[b0q]
theorem b3B:b0w false [] []=true:=by rw[b0w]
theorem b5U{e:TE}(h:(!e.great)=true):e.cnt≤60+1:=by
 have:=b7C (e:=e) (by simpa using h);omega
section
variable {l:List Tok}{E:Nat}
theorem c1h{e:TE}(h:e.ok=true){p:Nat}(hat:Ats l p e.toks):tx l p false=b0T∨tx l p false=b1n∨(∃u,tx l p false=b2m u)∨b0H (tx l p false)=true:=by
 obtain⟨k,a,n,s,args⟩:=e;rw[TE.toks,b5A] at hat;rcases TE.ok_cases h with⟨rfl,rfl,rfl,hn9⟩ | ⟨rfl,rfl,hs,rfl⟩ | ⟨rfl,⟨x,rfl,hx⟩,hs,rfl⟩ | ⟨⟨i,hi,rfl⟩,⟨x,y,rfl,hx,hy⟩,rfl,rfl⟩
 ·have e1:b4C 1 n emp (List.map TE.toks [])=b7O n:=rfl;rw[e1] at hat;unfold b7O at hat;by_cases h0:n<0
  ·rw[if_pos h0] at hat;exact Or.inr (Or.inl hat.head)
  ·rw[if_neg h0] at hat;exact Or.inr (Or.inr (Or.inl ⟨_,hat.head⟩))
 ·have e1:b4C 2 0 s (List.map TE.toks [])=[(1,s)]:=rfl;rw[e1] at hat;exact Or.inr (Or.inr (Or.inr (by rw[hat.head];exact hs)))
 ·have e1:b4C 3 0 s (List.map TE.toks [x])=(1,s)::(3,b1o)::(x.toks++[(3,b4p)]):=rfl;rw[e1] at hat;exact Or.inr (Or.inr (Or.inr (by rw[hat.head];exact hs)))
 ·have e1:b4C (4+(i:Int)) 0 emp (List.map TE.toks [x,y])=(3,b0T)::(x.toks++((3,opB i)::(y.toks++[(3,b0Y)]))):=by
   unfold b4C;rw[if_neg (by omega),if_neg (by omega),if_neg (by omega),show(4+(i:Int)-4).toNat=i by omega];rfl
  rw[e1] at hat;exact Or.inl hat.head
theorem c3U{e:TE}(h:e.ok=true){p:Nat}(hat:Ats l p e.toks):tx l p false≠b0Y:=by
 rcases c1h h hat with h | h | ⟨u,h⟩ | h
 ·rw[h];decide
 ·rw[h];decide
 ·rw[h];exact b8f (Or.inl (by decide))
 ·exact b2s h (by decide +kernel)
theorem b9f{xs:List Tks}{p:Nat}(hat:Ats l p (b4T xs))(he:tx l (p+(b4T xs).length) false=b0Y):tx l p false=b0e∨tx l p false=b0Y:=by
 cases xs with
 | nil=>exact Or.inr he
 | cons x xs=>exact Or.inl hat.head
theorem b9I:∀(xs:List TE),(∀x∈xs,x.ok=true∧x.cnt≤60+1)→∀(n k p:Nat),xs.length<n→0<k→Ats l p (b4T (xs.map TE.toks))→tx l (p+(b4T (xs.map TE.toks)).length) false=b0Y →
  ∃ys,b2l l E n k (p,false)=(ys,(p+(b4T (xs.map TE.toks)).length,false))∧b0q false xs ys=true
 | [],_,n,k,p,_,_,_,he=>⟨[],b2I (Or.inr he),b2i⟩
 | x::xs,hx,n,k,p,hn,hk,hat,he=>by
  rw[List.length_cons] at hn;obtain⟨n,rfl⟩:∃m,n=m+1:=⟨n-1,by omega⟩;rw[List.map_cons,b4T] at hat he ⊢;have t0:tx l p false=b0e:=hat.head;obtain⟨h3,h4⟩:=hat.tail.app
  have he':tx l (p+1+x.toks.length+(b4T (xs.map TE.toks)).length) false=b0Y:=by
   rw[List.length_cons,List.length_append] at he;rw[←he];congr 1;omega
  have hnx:=b9f h4 he';obtain⟨h5,h6⟩:=hx x (by simp);obtain⟨x',g1,g2⟩:=b2F (E:=E) x h5 60 (p+1) h6 h3 (by rcases hnx with h | h<;>rw[h]<;>decide);obtain⟨ys,g3,g4⟩:=b9I xs (fun y hy=>hx y (by simp[hy])) n (k+1) (p+1+x.toks.length) (by omega) (by omega) h4 he';refine⟨x'::ys,?_,?_⟩
  ·rw[b5R (q:=(p,false)) rfl (by rw[t0];decide),if_pos hk,b0G t0,g1];simp only[];rw[b8Q (q:=(p+1+x.toks.length,false)) hnx,g3,List.length_cons,List.length_append];simp only[]
   congr 2
   omega
  ·rw[b0q,g2,g4];rfl
theorem c1U{xs:List TE}(hx:∀x∈xs,x.ok=true∧x.cnt≤60+1){n p:Nat}(hn:xs.length<n)(hat:Ats l p (b4V (xs.map TE.toks)))(he:tx l (p+(b4V (xs.map TE.toks)).length) false=b0Y) :
  ∃ys,b2l l E n 0 (p,false)=(ys,(p+(b4V (xs.map TE.toks)).length,false))∧b0q false xs ys=true:=by
 cases xs with
 | nil=>exact⟨[],b2I (Or.inr he),b2i⟩
 | cons x xs =>
  rw[List.length_cons] at hn;obtain⟨n,rfl⟩:∃m,n=m+1:=⟨n-1,by omega⟩;rw[List.map_cons,b5v] at hat he ⊢;obtain⟨h3,h4⟩:=hat.app
  have he':tx l (p+x.toks.length+(b4T (xs.map TE.toks)).length) false=b0Y:=by
   rw[List.length_append] at he;rw[←he];congr 1;omega
  have hnx:=b9f h4 he';obtain⟨h5,h6⟩:=hx x (by simp);obtain⟨x',g1,g2⟩:=b2F (E:=E) x h5 60 p h6 h3 (by rcases hnx with h | h<;>rw[h]<;>decide);obtain⟨ys,g3,g4⟩:=b9I (E:=E) xs (fun y hy=>hx y (by simp[hy])) n 1 (p+x.toks.length) (by omega) (by omega) h4 he';refine⟨x'::ys,?_,?_⟩
  ·rw[b5R (q:=(p,false)) rfl (c3U h5 h3),if_neg (by omega),g1];simp only[];rw[b8Q (q:=(p+x.toks.length,false)) hnx,g3,List.length_append];simp only[]
   congr 2
   omega
  ·rw[b0q,g2,g4];rfl
theorem b9a:∀(xs:List ByteArray),(∀x∈xs,b0H x=true)→∀(n k p:Nat),xs.length<n→0<k→Ats l p (b4T (xs.map fun s=>[(1,s)]))→tx l (p+(b4T (xs.map fun s=>[((1:Int),s)])).length) false=b0Y →
  b0z l n k (p,false)=(xs,(p+(b4T (xs.map fun s=>[((1:Int),s)])).length,false))
 | [],_,n,k,p,_,_,_,he=>b1Q (Or.inr he)
 | x::xs,hx,n,k,p,hn,hk,hat,he=>by
  rw[List.length_cons] at hn;obtain⟨n,rfl⟩:∃m,n=m+1:=⟨n-1,by omega⟩;rw[List.map_cons,b4T] at hat he ⊢;have t0:tx l p false=b0e:=hat.head;have t1:tx l (p+1) false=x:=hat.tail.head
  have he':tx l (p+1+1+(b4T (xs.map fun s=>[((1:Int),s)])).length) false=b0Y:=by
   rw[List.length_cons,List.length_append] at he;rw[←he];congr 1;simp only[List.length_cons,List.length_nil];omega
  have g3:=b9a xs (fun y hy=>hx y (by simp[hy])) n (k+1) (p+1+1) (by omega) (by omega) hat.tail.tail he';rw[b4K (q:=(p,false)) rfl (by rw[t0];decide),if_pos hk,b0G t0,b0j (by rw[t1];exact hx x (by simp)),t1,g3];simp only[List.length_cons,List.length_append,List.length_nil]
  congr 2
  omega
theorem c1y{xs:List ByteArray}(hx:∀x∈xs,b0H x=true){n p:Nat}(hn:xs.length<n)(hat:Ats l p (b4V (xs.map fun s=>[(1,s)])))(he:tx l (p+(b4V (xs.map fun s=>[((1:Int),s)])).length) false=b0Y) :
  b0z l n 0 (p,false)=(xs,(p+(b4V (xs.map fun s=>[((1:Int),s)])).length,false)):=by
 cases xs with
 | nil=>exact b1Q (Or.inr he)
 | cons x xs =>
  rw[List.length_cons] at hn;obtain⟨n,rfl⟩:∃m,n=m+1:=⟨n-1,by omega⟩;rw[List.map_cons,b5v] at hat he ⊢;have t1:tx l p false=x:=hat.head;have hxx:=hx x (by simp)
  have he':tx l (p+1+(b4T (xs.map fun s=>[((1:Int),s)])).length) false=b0Y:=by
   rw[List.length_append] at he;rw[←he];congr 1;simp only[List.length_cons,List.length_nil];omega
  have g3:=b9a xs (fun y hy=>hx y (by simp[hy])) n 1 (p+1) (by omega) (by omega) hat.tail he';rw[b4K (q:=(p,false)) rfl (by rw[t1];exact b2s hxx (by decide +kernel)),if_neg (by omega),b0j (by rw[t1];exact hxx),t1,g3];simp only[List.length_cons,List.length_append,List.length_nil]
  congr 2
  omega
theorem b6x{x:TC}(h:x.ok=true){p:Nat}(hat:Ats l p x.toks):b0H (tx l p false)=true∨tx l p false=b1R∨tx l p false=ifB∨tx l p false=b1e:=by
 obtain⟨k,a,s,t,i,e,args,thn,els⟩:=x;rw[TC.ok_eq] at h;simp only[Bool.and_eq_true,TC.kind,TC.name] at h;obtain⟨⟨⟨⟨⟨⟨⟨hk,hs⟩,ht⟩,hi⟩,he⟩,ha⟩,hT⟩,hE⟩:=h;replace hk:=of_decide_eq_true hk;rw[TC.toks] at hat;unfold c4N at hat;have hk':k=1∨k=2∨k=3∨k=4∨k=5∨k=6∨k=7:=by omega
 rcases hk' with rfl | rfl | rfl | rfl | rfl | rfl | rfl
 ·rw[if_pos rfl] at hat;exact Or.inl (by rw[hat.head];exact hs)
 ·rw[if_neg (by decide),if_pos rfl] at hat;exact Or.inl (by rw[hat.head];exact hs)
 ·rw[if_neg (by decide),if_neg (by decide),if_pos rfl] at hat;exact Or.inl (by rw[hat.head];exact hs)
 ·rw[if_neg (by decide),if_neg (by decide),if_neg (by decide),if_pos rfl] at hat;exact Or.inl (by rw[hat.head];exact hs)
 ·rw[if_neg (by decide),if_neg (by decide),if_neg (by decide),if_neg (by decide),if_pos rfl] at hat;exact Or.inr (Or.inl hat.head)
 ·rw[if_neg (by decide),if_neg (by decide),if_neg (by decide),if_neg (by decide),if_neg (by decide),if_pos rfl] at hat;exact Or.inr (Or.inr (Or.inl hat.head))
 ·rw[if_neg (by decide),if_neg (by decide),if_neg (by decide),if_neg (by decide),if_neg (by decide),if_neg (by decide)] at hat;exact Or.inr (Or.inr (Or.inr hat.head))
theorem b6d{x t:ByteArray}(h:b0H x=true∨x=b1R∨x=ifB∨x=b1e)(h1:b0H t=false)(h2:b1R≠t)(h3:ifB≠t)(h4:b1e≠t):x≠t:=by
 rcases h with h | rfl | rfl | rfl
 ·exact b2s h h1
 ·exact h2
 ·exact h3
 ·exact h4
def c8K(l:List Tok)(E:Nat)(x:TC):Prop:=∀(d:Int) (n p:Nat),x.ok=true→x.fine d=true→x.cnt≤n→p≤l.length→Ats l p x.toks→tx l (p+x.toks.length) false≠b2e→∃x',b3O l E (b2y l E n) (p,false)=(x',(p+x.toks.length,false))∧x.same false x'=true
theorem c7x(x:TC):1≤x.cnt:=by rw[TC.cnt_eq];omega
theorem b4k{s:ByteArray}(hs:s=b0v∨s=b1A){d:Int}:∀(cs:List TC),(∀x∈cs,c8K l E x)→b1l cs=true→b1H cs d=true→∀(n p:Nat),b1S cs<n→p≤l.length→Ats l p (b1U cs)→tx l (p+(b1U cs).length) false=s →
  ∃cs',b1K l E n s (p,false)=(cs',(p+(b1U cs).length,false))∧b0w false cs cs'=true
 | [],_,_,_,n,p,_,_,_,he=>⟨[],b2J (Or.inr he),b3B⟩
 | x::cs,ih,ho,hf,n,p,hn,hp,hat,he=>by
  rw[b1l,Bool.and_eq_true] at ho;rw[b1H,Bool.and_eq_true,Bool.and_eq_true] at hf;rw[b1S] at hn;have hx1:=c7x x;obtain⟨n,rfl⟩:∃m,n=m+1:=⟨n-1,by omega⟩;rw[b1U] at hat he ⊢;obtain⟨h3,h4⟩:=hat.app
  have he':tx l (p+x.toks.length+(b1U cs).length) false=s:=by
   rw[List.length_append] at he;rw[←he];congr 1;omega
  have hfx:=b6x ho.1 h3;have hns:tx l p false≠s:=by rcases hs with rfl | rfl<;>exact b6d hfx (by decide +kernel) (by decide) (by decide) (by decide)
  have hel:tx l (p+x.toks.length) false≠b2e:=by
   cases cs with
   | nil =>
    have he2:tx l (p+x.toks.length) false=s:=he';rw[he2];rcases hs with rfl | rfl<;>decide
   | cons y cs =>
    rw[b1l,Bool.and_eq_true] at ho;rw[b1U] at h4;exact b6d (b6x ho.2.1 h4.app.1) (by decide +kernel) (by decide) (by decide) (by decide)
  obtain⟨x',g1,g2⟩:=ih x (by simp) d n p ho.1 hf.1.2 (by omega) hp h3 hel;obtain⟨cs',g3,g4⟩:=b4k hs cs (fun y hy=>ih y (by simp[hy])) ho.2 hf.2 n (p+x.toks.length) (by omega) (h3.len hp) h4 he';refine⟨x'::cs',?_,?_⟩
  ·rw[b6Z hns,g1];simp only[];rw[g3,List.length_append];simp only[]
   congr 2
   omega
  ·rw[b0w,g2,g4];rfl
theorem b4F{d:Int}{cs:List TC}{us:Tks}(ih:∀x∈cs,c8K l E x)(ho:b1l cs=true)(hf:b1H cs d=true){n p:Nat}(hn:b1S cs<n)(hp:p≤l.length)(hat:Ats l p ((3,b0u)::(b1U cs++(3,b0v)::us))) :
  (∃cs',b2y l E n (p,false)=(cs',(p+1+(b1U cs).length+1,false))∧b0w false cs cs'=true)∧Ats l (p+1+(b1U cs).length+1) us∧p+1+(b1U cs).length+1≤l.length:=by
 have t0:tx l p false=b0u:=hat.head;obtain⟨h3,h4⟩:=hat.tail.app;have t1:tx l (p+1+(b1U cs).length) false=b0v:=h4.head
 have hle:p+1≤l.length:=by
  have:=hat.len hp;rw[List.length_cons] at this;omega
 obtain⟨cs',g1,g2⟩:=b4k (Or.inl rfl) cs ih ho hf n (p+1) hn hle h3 t1
 have hle2:p+1+(b1U cs).length+1≤l.length:=by
  have:=hat.len hp;rw[List.length_cons,List.length_append,List.length_cons] at this;omega
 refine⟨⟨cs',?_,g2⟩,h4.tail,hle2⟩;unfold b2y;rw[b0G t0,g1];simp only[];rw[b0G t1]
end
section
variable {l:List Tok}{E:Nat}
theorem b6j{p:Nat}{s:ByteArray}(hs:b0H s=true)(t0:tx l p false=s):tx l p false≠b1R∧tx l p false≠ifB∧tx l p false≠b1e∧b0D l (p,false)=(s,(p+1,false)):=by
 rw[t0];exact⟨b2s hs (by decide +kernel),b2s hs (by decide +kernel),b2s hs (by decide +kernel),by rw[b0j (by rw[t0];exact hs),t0]⟩
theorem b9K(x:TC):c8K l E x:=by
 induction x using TC.ind with
 | h k a s t i e args thn els ih1 ih2 =>
  intro d n p hok hf hn hp hat hel;rw[TC.ok] at hok;rw[TC.fine] at hf;simp only[Bool.and_eq_true] at hok hf;obtain⟨⟨⟨⟨⟨⟨⟨hk,hs⟩,ht⟩,hi⟩,he⟩,ha⟩,hT⟩,hE⟩:=hok;obtain⟨⟨⟨⟨⟨gi,ge⟩,ga⟩,gaa⟩,gT⟩,gE⟩:=hf;replace hk:=of_decide_eq_true hk;replace ga:=of_decide_eq_true ga;rw[TC.cnt] at hn;rw[TC.toks] at hat hel ⊢;unfold c4N at hat hel ⊢;have hk':k=1∨k=2∨k=3∨k=4∨k=5∨k=6∨k=7:=by omega
  rcases hk' with rfl | rfl | rfl | rfl | rfl | rfl | rfl
  ·rw[if_pos (by decide)] at hs;rw[if_neg (by decide)] at ht hi he ha hT hE;rw[if_pos rfl] at hat ⊢;obtain rfl:=of_decide_eq_true ht;obtain rfl:=List.eq_nil_of_length_eq_zero (of_decide_eq_true ha);obtain rfl:=List.eq_nil_of_length_eq_zero (of_decide_eq_true hT);obtain rfl:=List.eq_nil_of_length_eq_zero (of_decide_eq_true hE);obtain⟨h1,h2,h3,hnm⟩:=b6j hs hat.head;have t1:tx l (p+1) false=eqB:=hat.tail.head;obtain⟨h4,h5⟩:=hat.tail.tail.app;have t2:tx l (p+1+1+e.toks.length) false=b0s:=h5.head;obtain⟨e',g1,g2⟩:=b2F (E:=E) e he 60 (p+1+1) (b5U ge) h4 (by rw[t2];decide);obtain⟨c1,c2⟩:=c3R he h4 (by rw[t2];decide);refine⟨.mk 1 (place l E p) s emp b1P e' [] [] [],?_,?_⟩
   ·rw[b6Y h1 h2 h3 (by rw[hnm];simp only[];rw[t1];decide) (by rw[hnm,b0G t1];exact c1) (by rw[hnm,b0G t1];exact c2),hnm,b0G t1,g1];simp only[];rw[b0G t2];simp only[List.length_cons,List.length_append,List.length_nil]
    congr 2
    omega
   ·rw[TC.same,b2T hi,g2,b2i,b3B];simp
  ·rw[if_pos (by decide)] at hs hi;rw[if_neg (by decide)] at ht he ha hT hE;rw[if_neg (by decide),if_pos rfl] at hat ⊢;obtain rfl:=of_decide_eq_true ht;obtain rfl:=List.eq_nil_of_length_eq_zero (of_decide_eq_true ha);obtain rfl:=List.eq_nil_of_length_eq_zero (of_decide_eq_true hT);obtain rfl:=List.eq_nil_of_length_eq_zero (of_decide_eq_true hE);obtain⟨h1,h2,h3,hnm⟩:=b6j hs hat.head;have t1:tx l (p+1) false=b1o:=hat.tail.head;obtain⟨h4,h5⟩:=hat.tail.tail.app;have t2:tx l (p+1+1+i.toks.length) false=b4p:=h5.head;have t3:tx l (p+1+1+i.toks.length+1) false=eqB:=h5.tail.head;obtain⟨h6,h7⟩:=h5.tail.tail.app;have t4:tx l (p+1+1+i.toks.length+1+1+e.toks.length) false=b0s:=h7.head;obtain⟨i',g1,g2⟩:=b2F (E:=E) i hi 60 (p+1+1) (b5U gi) h4 (by rw[t2];decide);obtain⟨e',g3,g4⟩:=b2F (E:=E) e he 60 (p+1+1+i.toks.length+1+1) (b5U ge) h6 (by rw[t4];decide);refine⟨.mk 2 (place l E p) s emp i' e' [] [] [],?_,?_⟩
   ·rw[b8U h1 h2 h3 (by rw[hnm];exact t1),hnm,b0G t1,g1];simp only[];rw[b0G t2,b0G t3,g3];simp only[];rw[b0G t4];simp only[List.length_cons,List.length_append,List.length_nil]
    congr 2
    omega
   ·rw[TC.same,g2,g4,b2i,b3B];simp
  ·rw[if_pos (by decide)] at hs ht he ha;rw[if_neg (by decide)] at hi hT hE;rw[if_neg (by decide),if_neg (by decide),if_pos rfl] at hat ⊢;obtain rfl:=List.eq_nil_of_length_eq_zero (of_decide_eq_true hT);obtain rfl:=List.eq_nil_of_length_eq_zero (of_decide_eq_true hE);obtain⟨h1,h2,h3,hnm⟩:=b6j hs hat.head;have t1:tx l (p+1) false=eqB:=hat.tail.head;have t2:tx l (p+1+1) false=t:=hat.tail.tail.head;have t3:tx l (p+1+1+1) false=b0T:=hat.tail.tail.tail.head;obtain⟨h4,h5⟩:=hat.tail.tail.tail.tail.app;have t4:tx l (p+1+1+1+1+(b4V (args.map TE.toks)).length) false=b0Y:=h5.head;have t5:tx l (p+1+1+1+1+(b4V (args.map TE.toks)).length+1) false=b0s:=h5.tail.head;have hlen:=hat.len hp;simp only[List.length_cons,List.length_append] at hlen
   have hax:∀x∈args,x.ok=true∧x.cnt≤60+1:=fun x hx=>⟨List.all_eq_true.1 ha x hx,b5U (by
    cases hg:x.great with
    | false=>rfl
    | true=>rw[List.any_eq_true.2 ⟨x,hx,hg⟩] at gaa;cases gaa)⟩
   obtain⟨ys,g1,g2⟩:=c1U (E:=E) hax (n:=l.length+1) (p:=p+1+1+1+1) (by omega) h4 t4;have hnm2:b0D l (p+1+1,false)=(t,(p+1+1+1,false)):=by rw[b0j (by rw[t2];exact ht),t2]
   refine⟨.mk 3 (place l E p) s t b1P b1P ys [] [],?_,?_⟩
   ·rw[b6v h1 h2 h3 (by rw[hnm];simp only[];rw[t1];decide) (by rw[hnm,b0G t1];simp only[];rw[t2];exact b2s ht (by decide +kernel)) (by rw[hnm,b0G t1];exact⟨by simp only[];rw[t2];exact ht,t3⟩),hnm,b0G t1,hnm2,b0G t3,g1];simp only[];rw[b0G t4,b0G t5];simp only[List.length_cons,List.length_append,List.length_nil]
    congr 2
    omega
   ·rw[TC.same,b2T hi,b2T he,g2,b3B];simp
  ·rw[if_pos (by decide)] at hs he;rw[if_neg (by decide)] at ht hi ha hT hE;rw[if_neg (by decide),if_neg (by decide),if_neg (by decide),if_pos rfl] at hat ⊢;obtain rfl:=of_decide_eq_true ht;obtain rfl:=List.eq_nil_of_length_eq_zero (of_decide_eq_true ha);obtain rfl:=List.eq_nil_of_length_eq_zero (of_decide_eq_true hT);obtain rfl:=List.eq_nil_of_length_eq_zero (of_decide_eq_true hE);obtain⟨h1,h2,h3,hnm⟩:=b6j hs hat.head;have t1:tx l (p+1) false=eqB:=hat.tail.head;have t2:tx l (p+1+1) false=b2P:=hat.tail.tail.head;have t3:tx l (p+1+1+1) false=b0s:=hat.tail.tail.tail.head;refine⟨.mk 4 (place l E p) s emp b1P b1P [] [] [],?_,?_⟩
   ·rw[b6w h1 h2 h3 (by rw[hnm];simp only[];rw[t1];decide) (by rw[hnm,b0G t1];exact t2),hnm,b0G t1,b0G t2,b0G t3];rfl
   ·rw[TC.same,b2T hi,b2T he,b2i,b3B];simp
  ·rw[if_neg (by decide)] at hs ht hi he ha hT hE;rw[if_neg (by decide),if_neg (by decide),if_neg (by decide),if_neg (by decide),if_pos rfl] at hat ⊢;obtain rfl:=of_decide_eq_true hs;obtain rfl:=of_decide_eq_true ht;obtain rfl:=List.eq_nil_of_length_eq_zero (of_decide_eq_true ha);obtain rfl:=List.eq_nil_of_length_eq_zero (of_decide_eq_true hT);obtain rfl:=List.eq_nil_of_length_eq_zero (of_decide_eq_true hE);have t0:tx l p false=b1R:=hat.head;obtain⟨h4,h5⟩:=hat.tail.app;have t2:tx l (p+1+e.toks.length) false=b0s:=h5.head;obtain⟨e',g1,g2⟩:=b2F (E:=E) e he 60 (p+1) (b5U ge) h4 (by rw[t2];decide);refine⟨.mk 5 (place l E p) emp emp b1P e' [] [] [],?_,?_⟩
   ·rw[b4i t0,b0G rfl,g1];simp only[];rw[b0G t2];simp only[List.length_cons,List.length_append,List.length_nil]
    congr 2
    omega
   ·rw[TC.same,b2T hi,g2,b2i,b3B];simp
  ·rw[if_neg (by decide)] at hs ht hi he ha;rw[if_pos (by decide)] at hT hE;obtain rfl:=of_decide_eq_true hs;obtain rfl:=of_decide_eq_true ht;obtain rfl:=List.eq_nil_of_length_eq_zero (of_decide_eq_true ha);by_cases hl:els.length=0
   ·obtain rfl:=List.eq_nil_of_length_eq_zero hl;have e1:∀(A B:Tks),(if decide (([]:List TC).length≠0)=true then A else B)=B:=fun A B=>rfl;rw[e1,if_neg (by decide),if_neg (by decide),if_neg (by decide),if_neg (by decide),if_neg (by decide),if_pos rfl] at hat hel ⊢;have t0:tx l p false=ifB:=hat.head;obtain⟨h4,h5⟩:=hat.tail.app;have t2:tx l (p+1+e.toks.length) false=b0u:=h5.head;obtain⟨e',g1,g2⟩:=b2F (E:=E) e he 60 (p+1) (b5U ge) h4 (by rw[t2];decide);have hp2:=h4.len (by have:=hat.len hp;rw[List.length_cons] at this;omega);obtain⟨⟨cs',g3,g4⟩,-,-⟩:=b4F ih1 hT gT (n:=n) (by omega) hp2 h5
    have hel2:tx l (p+1+e.toks.length+1+(b1U thn).length+1) false≠b2e:=by
     refine fun e=>hel ?_;rw[←e]
     congr 1
     simp only[List.length_cons,List.length_append,List.length_nil];omega
    refine⟨.mk 6 (place l E p) emp emp b1P e' [] cs' [],?_,?_⟩
    ·rw[b8T t0 (by rw[b0G rfl,g1];simp only[];rw[g3];exact hel2),b0G rfl,g1];simp only[];rw[g3];simp only[List.length_cons,List.length_append,List.length_nil]
     congr 2
     omega
    ·rw[TC.same,b2T hi,g2,g4,b2i,b3B];simp
   ·have e1:∀(A B:Tks),(if decide (els.length≠0)=true then A else B)=A:=fun A B=>if_pos (decide_eq_true hl);rw[e1,if_neg (by decide),if_neg (by decide),if_neg (by decide),if_neg (by decide),if_neg (by decide),if_pos rfl] at hat hel ⊢;have t0:tx l p false=ifB:=hat.head;obtain⟨h4,h5⟩:=hat.tail.app;have t2:tx l (p+1+e.toks.length) false=b0u:=h5.head;obtain⟨e',g1,g2⟩:=b2F (E:=E) e he 60 (p+1) (b5U ge) h4 (by rw[t2];decide);have hp2:=h4.len (by have:=hat.len hp;rw[List.length_cons] at this;omega);obtain⟨⟨cs',g3,g4⟩,h6,hp3⟩:=b4F ih1 hT gT (n:=n) (by omega) hp2 h5;have t3:tx l (p+1+e.toks.length+1+(b1U thn).length+1) false=b2e:=h6.head
    have hp4:p+1+e.toks.length+1+(b1U thn).length+1+1≤l.length:=by
     have:=h6.len hp3;rw[List.length_cons] at this;omega
    obtain⟨⟨us',g5,g6⟩,-,-⟩:=b4F (us:=[]) ih2 hE gE (n:=n) (by omega) hp4 h6.tail;refine⟨.mk 6 (place l E p) emp emp b1P e' [] cs' us',?_,?_⟩
    ·rw[b5T t0 (by rw[b0G rfl,g1];simp only[];rw[g3];exact t3),b0G rfl,g1];simp only[];rw[g3];simp only[];rw[b0G t3,g5];simp only[List.length_cons,List.length_append,List.length_nil]
     congr 2
     omega
    ·rw[TC.same,b2T hi,g2,g4,g6,b2i];simp
  ·rw[if_neg (by decide)] at hs ht hi he ha hE;rw[if_pos (by decide)] at hT;rw[if_neg (by decide),if_neg (by decide),if_neg (by decide),if_neg (by decide),if_neg (by decide),if_neg (by decide)] at hat ⊢;obtain rfl:=of_decide_eq_true hs;obtain rfl:=of_decide_eq_true ht;obtain rfl:=List.eq_nil_of_length_eq_zero (of_decide_eq_true ha);obtain rfl:=List.eq_nil_of_length_eq_zero (of_decide_eq_true hE);have t0:tx l p false=b1e:=hat.head;obtain⟨h4,h5⟩:=hat.tail.app;have t2:tx l (p+1+e.toks.length) false=b0u:=h5.head;obtain⟨e',g1,g2⟩:=b2F (E:=E) e he 60 (p+1) (b5U ge) h4 (by rw[t2];decide);have hp2:=h4.len (by have:=hat.len hp;rw[List.length_cons] at this;omega);obtain⟨⟨cs',g3,g4⟩,-,-⟩:=b4F (us:=[]) ih1 hT gT (n:=n) (by omega) hp2 h5;refine⟨.mk 7 (place l E p) emp emp b1P e' [] cs' [],?_,?_⟩
   ·rw[b4j t0,b0G rfl,g1];simp only[];rw[g3];simp only[List.length_cons,List.length_append,List.length_nil]
    congr 2
    omega
   ·rw[TC.same,b2T hi,g2,g4,b2i,b3B];simp
theorem c4u:∀x:TC,x.ok=true→x.cnt≤x.toks.length:=by
 intro x;induction x using TC.ind with
 | h k a s t i e args thn els ih1 ih2 =>
  intro hok
  have hcs:∀cs:List TC,(∀x∈cs,x.ok=true→x.cnt≤x.toks.length)→b1l cs=true→b1S cs≤(b1U cs).length:=by
   intro cs;induction cs with
   | nil=>intro _ _;exact Nat.zero_le _
   | cons x cs ihl =>
    intro hi ho;rw[b1l,Bool.and_eq_true] at ho;have h1:=hi x (by simp) ho.1;have h2:=ihl (fun y hy=>hi y (by simp[hy])) ho.2;rw[b1S,b1U,List.length_append];omega
  rw[TC.ok] at hok;simp only[Bool.and_eq_true] at hok;obtain⟨⟨⟨⟨⟨⟨⟨hk,hs⟩,ht⟩,hi⟩,he⟩,ha⟩,hT⟩,hE⟩:=hok;replace hk:=of_decide_eq_true hk;rw[TC.cnt,TC.toks];unfold c4N;by_cases h6:k<6
  ·rw[if_neg (by omega)] at hT hE;obtain rfl:=List.eq_nil_of_length_eq_zero (of_decide_eq_true hT);obtain rfl:=List.eq_nil_of_length_eq_zero (of_decide_eq_true hE);have e0:b1S []=0:=rfl;rw[e0];split
   ·rw[List.length_cons];omega
   ·split
    ·rw[List.length_cons];omega
    ·split
     ·rw[List.length_cons];omega
     ·split
      ·rw[List.length_cons];omega
      ·split
       ·rw[List.length_cons];omega
       ·split<;>(rw[List.length_cons];omega)
  ·rw[if_pos (by omega)] at hT;have h1:=hcs thn ih1 hT;rw[if_neg (by omega),if_neg (by omega),if_neg (by omega),if_neg (by omega),if_neg (by omega)];by_cases h7:k=6
   ·subst h7;rw[if_pos rfl] at hE ⊢;have h2:=hcs els ih2 hE;by_cases hl:els.length=0
    ·obtain rfl:=List.eq_nil_of_length_eq_zero hl;have e0:b1S []=0:=rfl;rw[e0];simp only[List.length_cons,List.length_append];omega
    ·rw[if_pos (decide_eq_true hl)];simp only[List.length_cons,List.length_append,List.length_nil];omega
   ·rw[if_neg h7] at hE ⊢;obtain rfl:=List.eq_nil_of_length_eq_zero (of_decide_eq_true hE);have e0:b1S []=0:=rfl;rw[e0];simp only[List.length_cons,List.length_append,List.length_nil];omega
theorem b6y:∀cs:List TC,b1l cs=true→b1S cs≤(b1U cs).length
 | [],_=>Nat.zero_le _
 | x::cs,h=>by
  rw[b1l,Bool.and_eq_true] at h;have h1:=c4u x h.1;have h2:=b6y cs h.2;rw[b1S,b1U,List.length_append];omega
theorem b6I:∀(vs:List TV),vs.all TV.ok=true→∀(n p:Nat),vs.length<n→Ats l p (b3l vs)→tx l (p+(b3l vs).length) false≠b7d→tx l (p+(b3l vs).length) false≠b5t→b1b l n (p,false)=(vs,(p+(b3l vs).length,false))
 | [],_,n,p,_,_,h1,h2=>b3S (q:=(p,false)) (by rintro⟨_,h | h⟩;exact h1 h;exact h2 h)
 | v::vs,hv,n,p,hn,hat,h1,h2=>by
  rw[List.all_cons,Bool.and_eq_true] at hv;rw[List.length_cons] at hn;obtain⟨n,rfl⟩:∃m,n=m+1:=⟨n-1,by omega⟩;rw[b3l] at hat h1 h2 ⊢;obtain⟨h3,h4⟩:=hat.app;rw[List.length_append,←Nat.add_assoc] at h1 h2;have g3:=b6I vs hv.2 n (p+v.toks.length) (by omega) h4 h1 h2;have hvo:=hv.1;unfold TV.ok at hvo;rw[Bool.and_eq_true,decide_eq_true_eq] at hvo;obtain⟨hnm,hsz⟩:=hvo;obtain⟨nm,sz⟩:=v;simp only[] at hnm hsz
  have hvd:(tx l p false=b7d∨tx l p false=b5t)∧b5O l (p,false)=(⟨nm,sz⟩,(p+(TV.toks ⟨nm,sz⟩).length,false)):=by
   unfold TV.toks at h3 ⊢;simp only[] at h3 ⊢;by_cases h0:sz=0
   ·subst h0;rw[if_pos rfl] at h3 ⊢;have t0:tx l p false=b7d:=h3.head;have t1:tx l (p+1) false=nm:=h3.tail.head;have t2:tx l (p+1+1) false=b0s:=h3.tail.tail.head;refine⟨Or.inl t0,?_⟩;unfold b5O;simp only[];rw[b0G rfl,b0j (by rw[t1];exact hnm),t1,if_neg (by rw[t0];decide)];simp only[];rw[b0G t2];rfl
   ·rw[if_neg h0] at h3 ⊢;have t0:tx l p false=b5t:=h3.head;have t1:tx l (p+1) false=nm:=h3.tail.head;have t2:tx l (p+1+1) false=b2m sz.toNat:=h3.tail.tail.head;have t3:tx l (p+1+1+1) false=b0s:=h3.tail.tail.tail.head;refine⟨Or.inr t0,?_⟩;unfold b5O;simp only[];rw[b0G rfl,b0j (by rw[t1];exact hnm),t1,if_pos t0];simp only[];rw[decide_eq_false (by rw[t2];exact b9M (by omega)),b3Y,b5b (by rw[t2];exact b4W _),t2,b7N];simp only[];rw[b0G t3];have e2:((sz.toNat:Nat):Int)=sz:=by omega
    rw[e2];rfl
  rw[b5B (q:=(p,false)) rfl hvd.1,hvd.2];simp only[];rw[g3,List.length_append];simp only[]
  congr 2
  omega
end
end Go.Proofs.YtmfjlcpjemccmaaGreatDoor
