/- Plain words for memory: what a value reads as in a world, for lists, structs and numbers; nothing here speaks of one program. Each lemma states its own conditions. -/
import Derived.WalkKit
import Derived.ProofKit
import Derived.OwnWalk
import Derived.Deep.Draws
import Derived.Laws.OwnMore
import Derived.Lib.Hide
import Derived.Deep.AppendLies
import Derived.Laws.MakeOwn
import Derived.Laws.AppendOwnNone
namespace Go.Proofs.Ytgkpplbomciehaa
open Go.RowKit
abbrev zQ0(x13 x14:Value):Array Value:=#[.int .i64 0,.int .i64 0,.int .i64 0,.int .i64 0,.int .i64 0,.slice none 0 0,.int .i64 0,.int .i64 0,.slice none 0 0,.slice none 0 0,.slice none 0 0,.slice none 0 0,.int .i64 0,x13,x14]
abbrev zQ1(x0 x1 x3 x5 x8:Value):Array Value:=#[x0,x1,.int .i64 0,x3,.int .i64 0,x5,.slice none 0 0,.slice none 0 0,x8]
abbrev zQ2(x0 x12 x18:Value):Array Value:=#[x0,.int .i64 0,.int .i64 0,.int .i64 0,.int .i64 0,.slice none 0 0,.int .i64 0,.int .i64 0,.slice none 0 0,.slice none 0 0,.slice none 0 0,.slice none 0 0,x12,.int .i64 0,.int .i64 0,.int .i64 0,.int .i64 0,.slice none 0 0,x18,.int .i64 0,.slice none 0 0,.slice none 0 0,.slice none 0 0,.slice none 0 0]
theorem Hi_{p:Prop}(h:p):Hid p:=Lib.hid h
theorem lA{α:Type}{l:List α}{i:Nat}{a:α}:l.toArray.setIfInBounds i a=(l.set i a).toArray:=List.setIfInBounds_toArray ..
theorem lB{α:Type}{x y:α}{l:List α}:(x::l).set 0 y=y::l:=List.set_cons_zero
theorem lC{α:Type}{x y:α}{l:List α}{n:Nat}:(x::l).set (n+1) y=x::l.set n y:=List.set_cons_succ
abbrev Bel(w w':World):Prop:=Below w.heap.size w w'
theorem Bel.rfl_(w:World):Bel w w:=Below.refl _ _
theorem Bel.tr{a b c:World}(h:Bel a b)(k:Bel b c):Bel a c:=Below.trans h (Below.mono k h.size)
theorem Bel.trB{B:Nat}{a b c:World}(h:Below B a b)(k:Bel b c)(hB:B≤b.heap.size):Below B a c:=Below.trans h (Below.mono k hB)
theorem Bel.al{a b:World}(h:Bel a b)(o:Obj):Bel a (b.alloc o):=Below.alloc h h.size o
theorem Bel.dr{a b:World}(h:Bel a b):Bel a b.drew:=Below.drew h
theorem Below.drN{B:Nat}{a b:World}(h:Below B a b)(n:Nat):Below B a (b.drewN n):=⟨h.os,h.tape,h.output,h.size,h.block⟩
theorem Bel.drN{a b:World}(h:Bel a b)(n:Nat):Bel a (b.drewN n):=Below.drN h n
theorem b6S{w:World}{b o:Nat}{v:Value}(h:w.cell? ⟨b,o,none⟩=some v):b<w.heap.size:=block_lt_of_cell h
theorem Bel.cell{w w':World}(h:Bel w w'){b o:Nat}{v:Value}(hc:w.cell? ⟨b,o,none⟩=some v):w'.cell? ⟨b,o,none⟩=some v:=
 (Below.cell h (p:=⟨b,o,none⟩) (b6S hc)).trans hc
def b1D(w:World)(b o:Nat)(cs:List Value):Prop:=∀j u,cs[j]? = some u→w.cell? ⟨b,o+j,none⟩=some u
theorem b1D.keep{w w':World}{b o:Nat}{cs:List Value}(hb:Bel w w')(h:b1D w b o cs):b1D w' b o cs:=fun j u hu=>hb.cell (h j u hu)
structure Rep(α:Type) where
 size:Nat
 R:World→List Value→α→Prop
 len:∀{w cs x},R w cs x→cs.length=size
 keep:∀{w w' cs x},Bel w w'→R w cs x→R w' cs x
def Rep.At{α:Type}(r:Rep α)(w:World)(b o:Nat)(x:α):Prop:=∃cs,r.R w cs x∧b1D w b o cs
theorem Rep.At.keep{α:Type}{r:Rep α}{w w':World}{b o:Nat}{x:α}(hb:Bel w w')(h:r.At w b o x):r.At w' b o x:=
 let⟨cs,h1,h2⟩:=h;⟨cs,r.keep hb h1,h2.keep hb⟩
def Sl{α:Type}(r:Rep α)(w:World)(v:Value)(xs:List α):Prop:=
 ∃A c,v=.slice A xs.length c∧xs.length≤c∧(c≤maxLen∧(A=none→c=0))∧(0<xs.length→∃b o,A=some ⟨b,o,none⟩∧∀k x,xs[k]? = some x→r.At w b (o+k*r.size) x)
theorem Sl.keep{α:Type}{r:Rep α}{w w':World}{v:Value}{xs:List α}(hb:Bel w w')(h:Sl r w v xs):Sl r w' v xs:=by
 obtain⟨A,c,h1,h2,h3,h4⟩:=h;refine⟨A,c,h1,h2,h3,fun hp=>?_⟩;obtain⟨b,o,hA,hc⟩:=h4 hp;exact⟨b,o,hA,fun k x hx=>(hc k x hx).keep hb⟩
theorem Sl.nil{α:Type}(r:Rep α)(w:World)(c:Nat)(A:Option Addr)(hc:c≤maxLen)(h0:A=none→c=0):Sl r w (.slice A 0 c) ([]:List α):=
 ⟨A,c,rfl,Nat.zero_le _,⟨hc,h0⟩,fun h=>absurd h (by simp)⟩
theorem Sl.nil_{α:Type}(r:Rep α)(w:World):Sl r w (.slice none 0 0) ([]:List α):=Sl.nil r w 0 none (Nat.zero_le _) (fun _=>rfl)
def Rep.slice{α:Type}(r:Rep α):Rep (List α) where
 size:=1
 R w cs xs:=∃v,cs=[v]∧Sl r w v xs
 len h:=by obtain⟨v,rfl,_⟩:=h;rfl
 keep hb h:=by obtain⟨v,rfl,h2⟩:=h;exact⟨v,rfl,h2.keep hb⟩
def b2l:Rep Int where
 size:=1
 R _ cs x:=cs=[.int .i64 x]
 len h:=by subst h;rfl
 keep _ h:=h
theorem b2l.cell{w:World}{b o:Nat}{xs:List Int}(h:∀k x,xs[k]? = some x→b2l.At w b (o+k*b2l.size) x){k:Nat}{x:Int}(hk:xs[k]? = some x) :
  w.cell? ⟨b,o+k,none⟩=some (.int .i64 x):=by
 obtain⟨cs,hc,hcs⟩:=h k x hk;have e:cs=[.int .i64 x]:=hc;subst e;have:=hcs 0 _ rfl
 simpa[b2l] using this
structure Ev where
 kind:Int
 frame:Int
 at_:Int
 var:Int
 index:Int
 value:Int
deriving DecidableEq
def Ev.cells(e:Ev):List Value:=[.int .i64 e.kind,.int .i64 e.frame,.int .i64 e.at_,.int .i64 e.var,.int .i64 e.index,.int .i64 e.value]
def Ev.val(e:Ev):Value:=.agg #[.int .i64 e.kind,.int .i64 e.frame,.int .i64 e.at_,.int .i64 e.var,.int .i64 e.index,.int .i64 e.value]
def evR:Rep Ev where
 size:=6
 R _ cs e:=cs=e.cells
 len h:=by subst h;rfl
 keep _ h:=h
def EvAt(w:World)(b o:Nat)(e:Ev):Prop:=
 w.cell? ⟨b,o,none⟩=some (.int .i64 e.kind)∧w.cell? ⟨b,o+1,none⟩=some (.int .i64 e.frame)∧w.cell? ⟨b,o+2,none⟩=some (.int .i64 e.at_) ∧
 w.cell? ⟨b,o+3,none⟩=some (.int .i64 e.var)∧w.cell? ⟨b,o+4,none⟩=some (.int .i64 e.index)∧w.cell? ⟨b,o+5,none⟩=some (.int .i64 e.value)
theorem evR.cells{w:World}{b o:Nat}{xs:List Ev}(h:∀k x,xs[k]? = some x→evR.At w b (o+k*evR.size) x){k:Nat}{x:Ev}(hk:xs[k]? = some x) :
  EvAt w b (o+k*6) x:=by
 obtain⟨cs,hc,hcs⟩:=h k x hk;have e:cs=x.cells:=hc;subst e;exact⟨hcs 0 _ rfl,hcs 1 _ rfl,hcs 2 _ rfl,hcs 3 _ rfl,hcs 4 _ rfl,hcs 5 _ rfl⟩
def b5g(n:Nat):Prop:=n≤140737488351232
theorem b7B{k:IntKind}{a b:Int}(h:a=b):Ending.returned (.int k a)=.returned (.int k b):=by rw[h]
theorem b1L{a b:Bool}(h:a=b):Ending.returned (.bool a)=.returned (.bool b):=by rw[h]
theorem Sl.own{α:Type}{r:Rep α}{w:World}{base:Nat}{e:TypeId}{v:Value}{n:Nat}{cells:List Value}{xs:List α}(h:w.ownsRow base e r.size v n cells)(hn:n=xs.length)
  (hR:∀k x,xs[k]? = some x→r.R w ((cells.drop (k*r.size)).take r.size) x):Sl r w v xs:=by
 subst hn;rcases h.2 with⟨rfl,h0⟩ | ⟨g,cap,cur,rfl,_,hg,hnc,hcm,hcs,ht⟩
 ·obtain rfl:xs=[]:=List.eq_nil_of_length_eq_zero h0;exact Sl.nil_ r w
 ·refine⟨_,cap,rfl,hnc,⟨hcm,fun h=>by cases h⟩,fun _=>⟨g,0,rfl,fun k x hx=>⟨_,hR k x hx,fun j u hu=>?_⟩⟩⟩;rw[cell_of_row w g _ cur e (0,0) hg];rw[List.getElem?_take] at hu;split at hu
  ·rw[List.getElem?_drop,←ht,List.getElem?_take] at hu;split at hu
   ·simpa using hu
   ·cases hu
  ·cases hu
theorem Sl.cut{α:Type}{r:Rep α}{w:World}{A A':Option Addr}{c C' i j:Nat}{xs:List α}(hc:xs.length≤c)(hm:c≤maxLen∧(A=none→c=0))
  (hA:0<xs.length→∃b o,A=some ⟨b,o,none⟩∧∀k x,xs[k]? = some x→r.At w b (o+k*r.size) x) (hj:j≤xs.length) (hA':A'=if c=i then A else A.map (·.add (i*r.size))) (hC:C'=c-i) :
  Sl r w (.slice A' (j-i) C') ((xs.drop i).take (j-i)):=by
 have hlen:((xs.drop i).take (j-i)).length=j-i:=by rw[List.length_take,List.length_drop];omega
 subst hC;refine⟨A',c-i,by rw[hlen],by rw[hlen];omega,⟨by have:=hm.1;omega,fun h=>?_⟩,fun hp=>?_⟩
 ·rw[h] at hA';split at hA'
  ·omega
  ·have:A=none:=by
    cases A with
    | none=>rfl
    | some x=>exact absurd hA' (by simp)
   have:=hm.2 this;omega
 ·rw[hlen] at hp;obtain⟨b,o,rfl,hcs⟩:=hA (by omega);rw[if_neg (by omega)] at hA';refine⟨b,o+i*r.size,?_,fun k x hx=>?_⟩
  ·rw[hA'];simp only[Option.map_some];unfold Addr.add;split
   ·rename_i h0;rw[h0];rfl
   ·rfl
  ·rw[List.getElem?_take] at hx;split at hx
   ·rw[List.getElem?_drop] at hx;have:=hcs _ x hx
    rwa [Nat.add_mul,←Nat.add_assoc] at this
   ·cases hx
theorem Sl.own_int{w:World}{base:Nat}{e:TypeId}{v:Value}{n:Nat}{xs:List Int}(h:w.ownsRow base e 1 v n (xs.map (Value.int .i64)))(hn:n=xs.length):Sl b2l w v xs:=
 Sl.own (r:=b2l) h hn fun k x hx=>by
  have hl:k<xs.length:=(List.getElem?_eq_some_iff.1 hx).1;show _=[_];simp only[b2l,Nat.mul_one];rw[List.drop_eq_getElem_cons (by simpa using hl)];simp[(List.getElem?_eq_some_iff.1 hx).2]
structure Elem(P:Program)(t e:TypeId)(size bytes:Nat):Prop where
 und:P.underlying t=some (.slice e)
 inf:∃i z,P.info? e=some i∧i.zero=some z∧i.size=size∧i.bytes=bytes∧z.cells.size=size
 pos:0<size
theorem Elem.mk_{P:Program}{t e:TypeId}{size bytes:Nat}{z:Value}(h1:P.underlying t=some (.slice e))(h2:(P.info? e).map (fun i=>(i.zero,i.size,i.bytes))=some (some z,size,bytes))(h3:z.cells.size=size)(h4:0<size):Elem P t e size bytes:=by
 obtain⟨i,hi,hz0,hz1,hz2⟩:=info_parts h2;exact⟨h1,⟨i,z,hi,hz0,hz1,hz2,h3⟩,h4⟩
theorem Bel.grown{w w':World}(h:Bel w w')(row:Option Nat):w.grownBy w' row:=⟨h.os,h.tape,h.output,h.size,fun k hk _=>h.block k hk⟩
theorem Bel.own{w w':World}(h:Bel w w'){base:Nat}{e:TypeId}{size:Nat}{v:Value}{n:Nat}{xs:List Value}(ho:w.ownsRow base e size v n xs):w'.ownsRow base e size v n xs:=
 ho.kept (h.grown none) (by cases hv:v.ownBlock<;>simp)
section
variable {P:Program}(W:World)
theorem b2R{ops:Array Oper}{rest:List Oper}{o:Oper}{a:Act}{Q:Exit→Act→World→Prop}(hgd:o.guard=none)(s x:Operand)(t:TypeId)
  (ho:o.op=.call { callee:=.builtin .append,args:=#[s,x],argTypes:=#[t,t] }) (base:Nat) {e:TypeId} {size bytes:Nat} (E:Elem P t e size bytes)
  (v:Value) (n:Nat) (xs:List Value) (hs:a.eval s=v) (hown:W.ownsRow base e size v n xs) (cs:List Value) (hx:a.eval x=.slice (some ⟨W.heap.size,0,none⟩) 1 1)
  (hl:cs.length=size) (h1:∀u∈cs,u.oneCell'=true) (h63:n+1≤maxLen) (hbytes:(n+1)*bytes≤140737488355328) (hbase:base≤W.heap.size)
  (h:∀g cap w',w'.ownsRow base e size (.slice (some ⟨g,0,none⟩) (n+1) cap) (n+1) (xs++cs)→W.grownBy w' v.ownBlock→(v.ownBlock=some g∨W.heap.size≤g) →
   wpList P ops Q rest (a.put o.dst (.slice (some ⟨g,0,none⟩) (n+1) cap)) w'):wpList P ops Q (o::rest) a (W.alloc (.cells cs.toArray e)):=by
 obtain⟨i,z,hi,hz,hz1,hz2,hz3⟩:=E.inf
 have hnew:∀j u,cs[j]? = some u→(W.alloc (.cells cs.toArray e)).cell? ((⟨W.heap.size,0,none⟩:Addr).add j)=some u:=by
  intro j u hu;have hadd:(⟨W.heap.size,0,none⟩:Addr).add j=⟨W.heap.size,j,none⟩:=by unfold Addr.add;split<;>simp_all
  rw[hadd,cell_of_row _ W.heap.size j cs.toArray e (0,0) (heap_alloc_new W _)]
  simpa using hu
 refine wpList_append_lies (W.alloc (.cells cs.toArray e)) hgd s x t ho base e i z size bytes E.und hi hz hz1 hz2 hz3 E.pos v n xs hs (hown.alloc _) ⟨W.heap.size,0,none⟩ 1 1 cs hx (by omega) hnew h1 (by omega) h63 hbytes (by simp;omega) _ rfl ?_;intro g cap w' h2 h3 h4 _;refine h g cap w' h2 ?_ (h4.imp id fun e=>by rw[e];simp);exact⟨h3.os,h3.tape,h3.output,Nat.le_trans (by simp) h3.size,fun k hk hne=>(h3.block k (by simp;omega) hne).trans (heap_alloc_old W _ hk)⟩
theorem b4U{ops:Array Oper}{o:Oper}{a:Act}{K:Act→World→Prop}{Q:Exit→Act→World→Prop}{EE:Prop}(hgd:o.guard=none)(s x:Operand)(t:TypeId)
  (ho:o.op=.call { callee:=.builtin .append,args:=#[s,x],argTypes:=#[t,t] }) (base:Nat) {e:TypeId} {size bytes:Nat} (E:Elem P t e size bytes)
  (v:Value) (n:Nat) (xs:List Value) (hs:a.eval s=v) (hown:W.ownsRow base e size v n xs) (cs:List Value) (H:Nat) (hH:W.heap.size=H) (hx:a.eval x=.slice (some ⟨H,0,none⟩) 1 1)
  (hl:cs.length=size) (h1:∀u∈cs,u.oneCell'=true) (h63:n+1≤maxLen) (hbytes:(n+1)*bytes≤140737488355328) (hbase:base≤W.heap.size)
  (h:∀g cap w',w'.ownsRow base e size (.slice (some ⟨g,0,none⟩) (n+1) cap) (n+1) (xs++cs)→W.grownBy w' v.ownBlock→(v.ownBlock=some g∨W.heap.size≤g) →
   K (a.put o.dst (.slice (some ⟨g,0,none⟩) (n+1) cap)) w') {w0:World} (hw0:w0=W.alloc (.cells cs.toArray e)):if Region.wanted o (yielded ops a.tmps)=true then Oper.wp P o a w0 K Q else EE:=by
 subst hw0;subst hH;obtain⟨i,z,hi,hz,hz1,hz2,hz3⟩:=E.inf
 have hnew:∀j u,cs[j]? = some u→(W.alloc (.cells cs.toArray e)).cell? ((⟨W.heap.size,0,none⟩:Addr).add j)=some u:=by
  intro j u hu;have hadd:(⟨W.heap.size,0,none⟩:Addr).add j=⟨W.heap.size,j,none⟩:=by unfold Addr.add;split<;>simp_all
  rw[hadd,cell_of_row _ W.heap.size j cs.toArray e (0,0) (heap_alloc_new W _)]
  simpa using hu
 refine step_append_lies (W.alloc (.cells cs.toArray e)) hgd s x t ho base e i z size bytes E.und hi hz hz1 hz2 hz3 E.pos v n xs hs (hown.alloc _) ⟨W.heap.size,0,none⟩ 1 1 cs hx (by omega) hnew h1 (by omega) h63 hbytes (by simp;omega) _ rfl ?_;intro g cap w' h2 h3 h4 _;refine h g cap w' h2 ?_ (h4.imp id fun e=>by rw[e];simp);exact⟨h3.os,h3.tape,h3.output,Nat.le_trans (by simp) h3.size,fun k hk hne=>(h3.block k (by simp;omega) hne).trans (heap_alloc_old W _ hk)⟩
theorem b4u{ops:Array Oper}{rest:List Oper}{o:Oper}{a:Act}{Q:Exit→Act→World→Prop}(hgd:o.guard=none)(s x:Operand)(t:TypeId)
  (ho:o.op=.call { callee:=.builtin .append,args:=#[s,x],argTypes:=#[t,t] }) (base:Nat) {e:TypeId} {size bytes:Nat} (E:Elem P t e size bytes)
  (v:Value) (n:Nat) (xs:List Value) (hs:a.eval s=v) (hown:W.ownsRow base e size v n xs) (A:Option Addr) (m c:Nat) (news:List Value) (hx:a.eval x=.slice A m c)
  (hl:news.length=m*size) (hN:A=none→c=0) (hc:0<m→∃b off,A=some ⟨b,off,none⟩∧b1D W b off news) (h1:∀u∈news,u.oneCell'=true)
  (h63:n+m≤maxLen) (hbytes:(n+m)*bytes≤140737488355328) (hbase:base≤W.heap.size)
  (h:∀v' w',w'.ownsRow base e size v' (n+m) (xs++news)→W.grownBy w' v.ownBlock→(v'.ownBlock=v.ownBlock∨v'.ownBlock=some W.heap.size) →
   wpList P ops Q rest (a.put o.dst v') w'):wpList P ops Q (o::rest) a W:=by
 obtain⟨i,z,hi,hz,hz1,hz2,hz3⟩:=E.inf;cases A with
 | none =>
  have hm:m=0:=by
   rcases Nat.eq_zero_or_pos m with h0 | h0
   ·exact h0
   ·obtain⟨_,_,h,_⟩:=hc h0;cases h
  subst hm;obtain rfl:=hN rfl;obtain rfl:news=[]:=List.eq_nil_of_length_eq_zero (by simpa using hl);refine wpList_append_own_none (w:=W) hgd s x t ho base e i size E.und hi v n xs hs hown hx ?_;exact h v W (by simpa using hown) (World.grownBy.refl W _) (.inl rfl)
 | some ad =>
  have hn:∀j u,news[j]? = some u→W.cell? (ad.add j)=some u:=by
   intro j u hu
   have hm:0<m:=by
    rcases Nat.eq_zero_or_pos m with h0 | h0
    ·subst h0;obtain rfl:news=[]:=List.eq_nil_of_length_eq_zero (by simpa using hl);simp at hu
    ·exact h0
   obtain⟨b,off,hA,hcs⟩:=hc hm;injection hA with hA;subst hA;have hadd:(⟨b,off,none⟩:Addr).add j=⟨b,off+j,none⟩:=by unfold Addr.add;split<;>simp_all
   rw[hadd];exact hcs j u hu
  exact wpList_append_own_at W hgd s x t ho base e i z size bytes E.und hi hz hz1 hz2 hz3 E.pos v n xs hs hown ad m c news hx hl hn h1 h63 hbytes hbase fun v' w' h2 h3 _ h5=>h v' w' h2 h3 h5
end
def Blk(w:World)(g:Nat)(t:TypeId)(cs:Array Value):Prop:=w.heap[g]? = some (.cells cs t (0,0))
section
variable {w w':World}{g:Nat}{t:TypeId}{cs:Array Value}
theorem Blk.lt(h:Blk w g t cs):g<w.heap.size:=(Array.getElem?_eq_some_iff.1 h).1
theorem Blk.cell(h:Blk w g t cs){i:Nat}{v:Value}(hi:cs[i]? = some v):w.cell? ⟨g,i,none⟩=some v:=(cell_of_row w g i cs t (0,0) h).trans hi
theorem Blk.frozen(h:Blk w g t cs)(i:Nat):w.frozen? ⟨g,i,none⟩=false:=frozen_of_row w g i cs t h
theorem Blk.new(w:World)(t:TypeId)(cs:Array Value):Blk (w.alloc (.cells cs t)) w.heap.size t cs:=heap_alloc_new w _
theorem Blk.keep(h:Blk w g t cs)(hb:Bel w w'):Blk w' g t cs:=(hb.block g h.lt).trans h
theorem Blk.grown(h:Blk w g t cs){row:Option Nat}(hg:w.grownBy w' row)(hne:some g≠row):Blk w' g t cs:=(hg.block g h.lt hne).trans h
theorem Blk.set_(h:Blk w g t cs)(i:Nat)(v:Value):Blk (w.setCell ⟨g,i,none⟩ v) g t (cs.setIfInBounds i v):=heap_setCell_same w g i cs t v h
theorem Blk.ne_own(h:Blk w g t cs){base:Nat}{e:TypeId}{size n:Nat}{v:Value}{xs:List Value}(ho:w.ownsRow base e size v n xs)(hne:e≠t):some g≠v.ownBlock:=by
 rcases ho.2 with⟨rfl,_⟩ | ⟨g',cap,cur,rfl,_,hh,_⟩
 ·simp[Value.ownBlock]
 ·intro he;have:g=g':=by simpa[Value.ownBlock] using he
  subst this;unfold Blk at h;rw[hh] at h;injection h with h;injection h with _ h _;exact hne h
end
def SlF(w:World)(v:Value)(n size:Nat)(f:Nat→List Value):Prop:=
 ∃A c,v=.slice A n c∧n≤c∧(c≤maxLen∧(A=none→c=0))∧(0<n→∃b o,A=some ⟨b,o,none⟩∧∀i,i<n→b1D w b (o+i*size) (f i))
theorem SlF.keep{w w':World}(hb:Bel w w'){v:Value}{n size:Nat}{f:Nat→List Value}(h:SlF w v n size f):SlF w' v n size f:=by
 obtain⟨A,c,h1,h2,h3,h4⟩:=h;refine⟨A,c,h1,h2,h3,fun hp=>?_⟩;obtain⟨b,o,hA,hc⟩:=h4 hp;exact⟨b,o,hA,fun i hi=>(hc i hi).keep hb⟩
theorem SlF.sl{α:Type}{r:Rep α}{w:World}{v:Value}{xs:List α}{f:Nat→List Value}(h:SlF w v xs.length r.size f)(hf:∀i x,xs[i]? = some x→r.R w (f i) x):Sl r w v xs:=by
 obtain⟨A,c,h1,h2,h3,h4⟩:=h;refine⟨A,c,h1,h2,h3,fun hp=>?_⟩;obtain⟨b,o,hA,hc⟩:=h4 hp;exact⟨b,o,hA,fun k x hx=>⟨f k,hf k x hx,hc k (List.getElem?_eq_some_iff.1 hx).1⟩⟩
theorem Sl.frame{α:Type}{r:Rep α}{w:World}{v:Value}{xs:List α}(h:Sl r w v xs):∃f,SlF w v xs.length r.size f∧∀i x,xs[i]? = some x→r.R w (f i) x:=by
 obtain⟨A,c,h1,h2,h3,h4⟩:=h;rcases Nat.eq_zero_or_pos xs.length with h0 | h0
 ·exact⟨fun _=>[],⟨A,c,h1,h2,h3,fun hp=>by omega⟩,fun i x hx=>by have:=(List.getElem?_eq_some_iff.1 hx).1;omega⟩
 ·obtain⟨b,o,hA,hc⟩:=h4 h0
  have hx:∀i,∃cs,∀x,xs[i]? = some x→r.R w cs x∧b1D w b (o+i*r.size) cs:=fun i=>by
   cases hx:xs[i]? with
   | none=>exact⟨[],fun _ h=>by cases h⟩
   | some x =>
    obtain⟨cs,h5,h6⟩:=hc i x hx;exact⟨cs,fun y hy=>by obtain rfl:=Option.some.inj hy;exact⟨h5,h6⟩⟩
  refine⟨fun i=>Classical.choose (hx i),⟨A,c,h1,h2,h3,fun _=>⟨b,o,hA,fun i hi=>?_⟩⟩,fun i x hi=>(Classical.choose_spec (hx i) x hi).1⟩;exact(Classical.choose_spec (hx i) xs[i] (List.getElem?_eq_getElem hi)).2
inductive PE where
 | mk (kind n:Int) (args:List PE)
namespace PE
def kind:PE→Int | .mk k _ _=>k
def n:PE→Int | .mk _ n _=>n
def args:PE→List PE | .mk _ _ l=>l
theorem ind{p:PE→Prop}(h:∀k n args,(∀x∈args,p x)→p (.mk k n args)):∀e,p e
 | .mk k n args=>h k n args fun x _hx=>ind h x
 termination_by e=>SizeOf.sizeOf e
 decreasing_by
  have:=List.sizeOf_lt_of_mem _hx;simp only[PE.mk.sizeOf_spec];omega
end PE
inductive PC where
 | mk (kind var fn:Int) (index expr:PE) (args:List PE) (thn els:List PC)
namespace PC
def kind:PC→Int | .mk k _ _ _ _ _ _ _=>k
def var:PC→Int | .mk _ v _ _ _ _ _ _=>v
def fn:PC→Int | .mk _ _ f _ _ _ _ _=>f
def index:PC→PE | .mk _ _ _ e _ _ _ _=>e
def expr:PC→PE | .mk _ _ _ _ e _ _ _=>e
def args:PC→List PE | .mk _ _ _ _ _ l _ _=>l
def thn:PC→List PC | .mk _ _ _ _ _ _ l _=>l
def els:PC→List PC | .mk _ _ _ _ _ _ _ l=>l
theorem ind{p:PC→Prop}(h:∀k v f i e args thn els,(∀x∈thn,p x)→(∀x∈els,p x)→p (.mk k v f i e args thn els)):∀x,p x
 | .mk k v f i e args thn els=>h k v f i e args thn els (fun x _hx=>ind h x) (fun x _hx=>ind h x)
 termination_by e=>SizeOf.sizeOf e
 decreasing_by
  all_goals
   have:=List.sizeOf_lt_of_mem _hx;simp only[PC.mk.sizeOf_spec];omega
end PC
structure PF where
 params:Int
 sizes:List Int
 cmds:List PC
 result:PE
inductive PER(w:World):PE→List Value→Prop
 | mk (k n:Int) (args:List PE) (v:Value) (f:Nat→List Value) (hv:SlF w v args.length 3 f) (hf:∀i x,args[i]? = some x→PER w x (f i)):PER w (.mk k n args) [.int .i64 k,.int .i64 n,v]
theorem PER.keep{w w':World}(hb:Bel w w'){e:PE}{cs:List Value}(h:PER w e cs):PER w' e cs:=by
 induction h with
 | mk k n args v f hv hf ih=>exact .mk k n args v f (hv.keep hb) ih
def peR:Rep PE where
 size:=3
 R w cs e:=PER w e cs
 len h:=by cases h;rfl
 keep hb h:=h.keep hb
theorem PER.opened{w:World}{k n:Int}{args:List PE}{cs:List Value}(h:PER w (.mk k n args) cs):∃v,cs=[.int .i64 k,.int .i64 n,v]∧Sl peR w v args:=by
 cases h with
 | mk _ _ _ v f hv hf=>exact⟨v,rfl,hv.sl (r:=peR) hf⟩
theorem PER.shut{w:World}{k n:Int}{args:List PE}{v:Value}(h:Sl peR w v args):PER w (.mk k n args) [.int .i64 k,.int .i64 n,v]:=by
 obtain⟨f,h1,h2⟩:=h.frame;exact .mk k n args v f h1 h2
inductive PCR(w:World):PC→List Value→Prop
 | mk (k u g:Int) (i e:PE) (args:List PE) (thn els:List PC) (ci ce:List Value) (va vt ve:Value) (ft fe:Nat→List Value) (hi:PER w i ci) (he:PER w e ce) (ha:Sl peR w va args)
   (hvt:SlF w vt thn.length 12 ft) (hft:∀i x,thn[i]? = some x→PCR w x (ft i)) (hve:SlF w ve els.length 12 fe) (hfe:∀i x,els[i]? = some x→PCR w x (fe i)) :
   PCR w (.mk k u g i e args thn els) ([.int .i64 k,.int .i64 u,.int .i64 g]++ci++ce++[va,vt,ve])
theorem PCR.keep{w w':World}(hb:Bel w w'){x:PC}{cs:List Value}(h:PCR w x cs):PCR w' x cs:=by
 induction h with
 | mk k u g i e args thn els ci ce va vt ve ft fe hi he ha hvt hft hve hfe ih1 ih2=>exact .mk k u g i e args thn els ci ce va vt ve ft fe (hi.keep hb) (he.keep hb) (ha.keep hb) (hvt.keep hb) ih1 (hve.keep hb) ih2
def pcR:Rep PC where
 size:=12
 R w cs x:=PCR w x cs
 len h:=by
  cases h with
  | mk _ _ _ _ _ _ _ _ ci ce _ _ _ _ _ hi he =>
   have h1:ci.length=3:=peR.len (w:=_) (x:=_) hi;have h2:ce.length=3:=peR.len (w:=_) (x:=_) he;simp[h1,h2]
 keep hb h:=h.keep hb
theorem PCR.opened{w:World}{k u g:Int}{i e:PE}{args:List PE}{thn els:List PC}{cs:List Value}(h:PCR w (.mk k u g i e args thn els) cs):∃vi ve va vt vs,
  cs=[.int .i64 k,.int .i64 u,.int .i64 g,.int .i64 i.kind,.int .i64 i.n,vi,.int .i64 e.kind,.int .i64 e.n,ve,va,vt,vs]∧Sl peR w vi i.args∧Sl peR w ve e.args∧Sl peR w va args∧Sl pcR w vt thn∧Sl pcR w vs els:=by
 cases h with
 | mk _ _ _ _ _ _ _ _ ci ce va vt vs ft fe hi he ha hvt hft hve hfe =>
  obtain⟨ik,iN,iargs⟩:=i;obtain⟨ek,eN,eargs⟩:=e;obtain⟨vi,rfl,h2⟩:=hi.opened;obtain⟨ve,rfl,h4⟩:=he.opened;exact⟨vi,ve,va,vt,vs,rfl,h2,h4,ha,hvt.sl (r:=pcR) hft,hve.sl (r:=pcR) hfe⟩
theorem PCR.shut{w:World}{k u g:Int}{i e:PE}{args:List PE}{thn els:List PC}{vi ve va vt vs:Value}(hi:Sl peR w vi i.args)(he:Sl peR w ve e.args)(ha:Sl peR w va args)(hT:Sl pcR w vt thn)(hE:Sl pcR w vs els) :
  PCR w (.mk k u g i e args thn els) [.int .i64 k,.int .i64 u,.int .i64 g,.int .i64 i.kind,.int .i64 i.n,vi,.int .i64 e.kind,.int .i64 e.n,ve,va,vt,vs]:=by
 obtain⟨ft,h1,h2⟩:=hT.frame;obtain⟨fe,h3,h4⟩:=hE.frame;obtain⟨ik,iN,iargs⟩:=i;obtain⟨ek,eN,eargs⟩:=e;exact .mk k u g _ _ args thn els [.int .i64 ik,.int .i64 iN,vi] [.int .i64 ek,.int .i64 eN,ve] va vt vs ft fe (.shut hi) (.shut he) ha h1 h2 h3 h4
def PFR(w:World)(x:PF)(cs:List Value):Prop:=∃vz vc vr,cs=[.int .i64 x.params,vz,vc,.int .i64 x.result.kind,.int .i64 x.result.n,vr]∧Sl b2l w vz x.sizes∧Sl pcR w vc x.cmds∧Sl peR w vr x.result.args
def pfR:Rep PF where
 size:=6
 R w cs x:=PFR w x cs
 len h:=by obtain⟨_,_,_,rfl,_⟩:=h;rfl
 keep hb h:=by
  obtain⟨vz,vc,vr,h1,h2,h3,h4⟩:=h;exact⟨vz,vc,vr,h1,h2.keep hb,h3.keep hb,h4.keep hb⟩
def PEV(w:World)(e:PE)(val:Value):Prop:=∃v,val=.agg #[.int .i64 e.kind,.int .i64 e.n,v]∧Sl peR w v e.args
theorem PEV.keep{w w':World}(hb:Bel w w'){e:PE}{val:Value}(h:PEV w e val):PEV w' e val:=by
 obtain⟨v,h1,h3⟩:=h;exact⟨v,h1,h3.keep hb⟩
def PCV(w:World)(x:PC)(val:Value):Prop:=∃cs,PCR w x cs∧val=.agg cs.toArray
theorem PCV.keep{w w':World}(hb:Bel w w'){x:PC}{val:Value}(h:PCV w x val):PCV w' x val:=by
 obtain⟨cs,h1,h2⟩:=h;exact⟨cs,h1.keep hb,h2⟩
theorem peR.cells{w:World}{b o:Nat}{xs:List PE}(h:∀k x,xs[k]? = some x→peR.At w b (o+k*peR.size) x){k:Nat}{x:PE}(hk:xs[k]? = some x) :
  ∃A m c,Sl peR w (.slice A m c) x.args∧w.cell? ⟨b,o+k*3,none⟩=some (.int .i64 x.kind)∧w.cell? ⟨b,o+k*3+1,none⟩=some (.int .i64 x.n)∧w.cell? ⟨b,o+k*3+2,none⟩=some (.slice A m c):=by
 obtain⟨cs,hc,hcs⟩:=h k x hk;obtain⟨k',n',args⟩:=x;obtain⟨v,rfl,hs⟩:=PER.opened hc;have hs':=hs;obtain⟨A,c,rfl,_⟩:=hs;exact⟨A,_,c,hs',hcs 0 _ rfl,hcs 1 _ rfl,hcs 2 _ rfl⟩
end Go.Proofs.Ytgkpplbomciehaa
