/- Plain words for memory: what a value reads as in a world, for lists, structs and numbers; nothing here speaks of one program. Each lemma states its own conditions. -/
import Derived.WalkKit
import Derived.ProofKit
import Derived.OwnWalk
import Derived.Deep.Draws
import Derived.Laws.OwnMore
import Derived.Lib.Hide
import Derived.Deep.AppendLies
import Derived.Laws.MakeOwn
import Derived.Laws.AppendOwnNone
namespace Go.Proofs.YtmfjlcpjemccmaaGreatDoor
open Go.RowKit
abbrev zQ0:Array Value:=#[.int .i64 0,.int .i64 0,.string ⟨#[]⟩,.string ⟨#[]⟩,.int .i64 0,.int .i64 0,.int .i64 0,.string ⟨#[]⟩,.slice none 0 0,.int .i64 0,.int .i64 0,.int .i64 0,.string ⟨#[]⟩,.slice none 0 0,.slice none 0 0,.slice none 0 0,.slice none 0 0]
abbrev zQ1(x1:Value):Array Value:=#[.int .i64 0,x1,.string ⟨#[]⟩,.string ⟨#[]⟩,.int .i64 0,.int .i64 0,.int .i64 0,.string ⟨#[]⟩,.slice none 0 0,.int .i64 0,.int .i64 0,.int .i64 0,.string ⟨#[]⟩,.slice none 0 0,.slice none 0 0,.slice none 0 0,.slice none 0 0]
abbrev zQ2(x0 x1 x2:Value):Array Value:=#[x0,x1,x2,.string ⟨#[]⟩,.int .i64 0,.int .i64 0,.int .i64 0,.string ⟨#[]⟩,.slice none 0 0,.int .i64 0,.int .i64 0,.int .i64 0,.string ⟨#[]⟩,.slice none 0 0,.slice none 0 0,.slice none 0 0,.slice none 0 0]
abbrev zQ3(x0 x1 x2 x3 x14:Value):Array Value:=#[x0,x1,x2,x3,.int .i64 0,.int .i64 0,.int .i64 0,.string ⟨#[]⟩,.slice none 0 0,.int .i64 0,.int .i64 0,.int .i64 0,.string ⟨#[]⟩,.slice none 0 0,x14,.slice none 0 0,.slice none 0 0]
abbrev zQ4(x0 x1 x9 x10 x11 x12 x13 x15:Value):Array Value:=#[x0,x1,.string ⟨#[]⟩,.string ⟨#[]⟩,.int .i64 0,.int .i64 0,.int .i64 0,.string ⟨#[]⟩,.slice none 0 0,x9,x10,x11,x12,x13,.slice none 0 0,x15,.slice none 0 0]
abbrev zQ5(x0 x1 x2 x9 x10 x11 x12 x13:Value):Array Value:=#[x0,x1,x2,.string ⟨#[]⟩,.int .i64 0,.int .i64 0,.int .i64 0,.string ⟨#[]⟩,.slice none 0 0,x9,x10,x11,x12,x13,.slice none 0 0,.slice none 0 0,.slice none 0 0]
abbrev zQ6(x1 x2:Value):Array Value:=#[.int .i64 0,x1,x2,.string ⟨#[]⟩,.int .i64 0,.int .i64 0,.int .i64 0,.string ⟨#[]⟩,.slice none 0 0,.int .i64 0,.int .i64 0,.int .i64 0,.string ⟨#[]⟩,.slice none 0 0,.slice none 0 0,.slice none 0 0,.slice none 0 0]
abbrev zQ7(x0 x1 x9 x10 x11 x12 x13:Value):Array Value:=#[x0,x1,.string ⟨#[]⟩,.string ⟨#[]⟩,.int .i64 0,.int .i64 0,.int .i64 0,.string ⟨#[]⟩,.slice none 0 0,x9,x10,x11,x12,x13,.slice none 0 0,.slice none 0 0,.slice none 0 0]
abbrev zQ8(x0:Value):Array Value:=#[x0,.string ⟨#[]⟩,.slice none 0 0,.slice none 0 0,.slice none 0 0,.int .i64 0,.int .i64 0,.int .i64 0,.string ⟨#[]⟩,.slice none 0 0]
abbrev zQ9(x0 x1:Value):Array Value:=#[x0,x1,.string ⟨#[]⟩,.string ⟨#[]⟩,.int .i64 0,.int .i64 0,.int .i64 0,.string ⟨#[]⟩,.slice none 0 0,.int .i64 0,.int .i64 0,.int .i64 0,.string ⟨#[]⟩,.slice none 0 0,.slice none 0 0,.slice none 0 0,.slice none 0 0]
abbrev c7F:Array Value:=#[.int .i64 0,.string ⟨#[]⟩,.slice none 0 0,.slice none 0 0,.slice none 0 0,.int .i64 0,.int .i64 0,.int .i64 0,.string ⟨#[]⟩,.slice none 0 0]
abbrev c7I(x0 x1 x9 x10 x11 x12 x13 x15 x16:Value):Array Value:=#[x0,x1,.string ⟨#[]⟩,.string ⟨#[]⟩,.int .i64 0,.int .i64 0,.int .i64 0,.string ⟨#[]⟩,.slice none 0 0,x9,x10,x11,x12,x13,.slice none 0 0,x15,x16]
abbrev c7J(x0 x1 x2 x4 x5 x6 x7 x8 x9 x10 x11 x12 x13:Value):Array Value:=#[x0,x1,x2,.string ⟨#[]⟩,x4,x5,x6,x7,x8,x9,x10,x11,x12,x13,.slice none 0 0,.slice none 0 0,.slice none 0 0]
abbrev c8E(x0 x1 x2:Value):Array Value:=#[x0,x1,x2,.slice none 0 0,.slice none 0 0,.int .i64 0,.int .i64 0,.int .i64 0,.string ⟨#[]⟩,.slice none 0 0]
abbrev c8s(x0 x3 x4:Value):Array Value:=#[x0,.string ⟨#[]⟩,.slice none 0 0,x3,x4,.int .i64 0,.int .i64 0,.int .i64 0,.string ⟨#[]⟩,.slice none 0 0]
abbrev c9A(x0 x3:Value):Array Value:=#[x0,.string ⟨#[]⟩,.slice none 0 0,x3,.slice none 0 0,.int .i64 0,.int .i64 0,.int .i64 0,.string ⟨#[]⟩,.slice none 0 0]
abbrev c9B(x0 x1:Value):Array Value:=#[x0,x1,.slice none 0 0,.slice none 0 0,.slice none 0 0,.int .i64 0,.int .i64 0,.int .i64 0,.string ⟨#[]⟩,.slice none 0 0]
abbrev c9C(x0 x1 x2 x4 x5 x6 x7 x8:Value):Array Value:=#[x0,x1,x2,.string ⟨#[]⟩,x4,x5,x6,x7,x8,.int .i64 0,.int .i64 0,.int .i64 0,.string ⟨#[]⟩,.slice none 0 0,.slice none 0 0,.slice none 0 0,.slice none 0 0]
abbrev c9D(x0 x1 x2 x3:Value):Array Value:=#[x0,x1,x2,x3,.int .i64 0,.int .i64 0,.int .i64 0,.string ⟨#[]⟩,.slice none 0 0,.int .i64 0,.int .i64 0,.int .i64 0,.string ⟨#[]⟩,.slice none 0 0,.slice none 0 0,.slice none 0 0,.slice none 0 0]
theorem Hi_{p:Prop}(h:p):Hid p:=Lib.hid h
theorem lA{α:Type}{l:List α}{i:Nat}{a:α}:l.toArray.setIfInBounds i a=(l.set i a).toArray:=List.setIfInBounds_toArray ..
theorem lB{α:Type}{x y:α}{l:List α}:(x::l).set 0 y=y::l:=List.set_cons_zero
theorem lC{α:Type}{x y:α}{l:List α}{n:Nat}:(x::l).set (n+1) y=x::l.set n y:=List.set_cons_succ
abbrev Bel(w w':World):Prop:=Below w.heap.size w w'
theorem Bel.rfl_(w:World):Bel w w:=Below.refl _ _
theorem Bel.tr{a b c:World}(h:Bel a b)(k:Bel b c):Bel a c:=Below.trans h (Below.mono k h.size)
theorem Bel.al{a b:World}(h:Bel a b)(o:Obj):Bel a (b.alloc o):=Below.alloc h h.size o
theorem Bel.dr{a b:World}(h:Bel a b):Bel a b.drew:=Below.drew h
theorem Below.drN{B:Nat}{a b:World}(h:Below B a b)(n:Nat):Below B a (b.drewN n):=⟨h.os,h.tape,h.output,h.size,h.block⟩
theorem Bel.drN{a b:World}(h:Bel a b)(n:Nat):Bel a (b.drewN n):=Below.drN h n
theorem b4l{w:World}{b o:Nat}{v:Value}(h:w.cell? ⟨b,o,none⟩=some v):b<w.heap.size:=block_lt_of_cell h
theorem Bel.cell{w w':World}(h:Bel w w'){b o:Nat}{v:Value}(hc:w.cell? ⟨b,o,none⟩=some v):w'.cell? ⟨b,o,none⟩=some v:=
 (Below.cell h (p:=⟨b,o,none⟩) (b4l hc)).trans hc
def b0x(w:World)(b o:Nat)(cs:List Value):Prop:=∀j u,cs[j]? = some u→w.cell? ⟨b,o+j,none⟩=some u
theorem b0x.keep{w w':World}{b o:Nat}{cs:List Value}(hb:Bel w w')(h:b0x w b o cs):b0x w' b o cs:=fun j u hu=>hb.cell (h j u hu)
structure Rep(α:Type) where
 size:Nat
 R:World→List Value→α→Prop
 len:∀{w cs x},R w cs x→cs.length=size
 keep:∀{w w' cs x},Bel w w'→R w cs x→R w' cs x
def Rep.At{α:Type}(r:Rep α)(w:World)(b o:Nat)(x:α):Prop:=∃cs,r.R w cs x∧b0x w b o cs
theorem Rep.At.keep{α:Type}{r:Rep α}{w w':World}{b o:Nat}{x:α}(hb:Bel w w')(h:r.At w b o x):r.At w' b o x:=
 let⟨cs,h1,h2⟩:=h;⟨cs,r.keep hb h1,h2.keep hb⟩
def Sl{α:Type}(r:Rep α)(w:World)(v:Value)(xs:List α):Prop:=
 ∃A c,v=.slice A xs.length c∧xs.length≤c∧(c≤maxLen∧(A=none→c=0))∧(0<xs.length→∃b o,A=some ⟨b,o,none⟩∧∀k x,xs[k]? = some x→r.At w b (o+k*r.size) x)
theorem Sl.keep{α:Type}{r:Rep α}{w w':World}{v:Value}{xs:List α}(hb:Bel w w')(h:Sl r w v xs):Sl r w' v xs:=by
 obtain⟨A,c,h1,h2,h3,h4⟩:=h;refine⟨A,c,h1,h2,h3,fun hp=>?_⟩;obtain⟨b,o,hA,hc⟩:=h4 hp;exact⟨b,o,hA,fun k x hx=>(hc k x hx).keep hb⟩
theorem Sl.nil{α:Type}(r:Rep α)(w:World)(c:Nat)(A:Option Addr)(hc:c≤maxLen)(h0:A=none→c=0):Sl r w (.slice A 0 c) ([]:List α):=
 ⟨A,c,rfl,Nat.zero_le _,⟨hc,h0⟩,fun h=>absurd h (by simp)⟩
theorem Sl.nil_{α:Type}(r:Rep α)(w:World):Sl r w (.slice none 0 0) ([]:List α):=Sl.nil r w 0 none (Nat.zero_le _) (fun _=>rfl)
def c1x(n:Nat):Prop:=n≤140737488351232
theorem b0Z{a b:Bool}(h:a=b):Ending.returned (.bool a)=.returned (.bool b):=by rw[h]
theorem Sl.own{α:Type}{r:Rep α}{w:World}{base:Nat}{e:TypeId}{v:Value}{n:Nat}{cells:List Value}{xs:List α}(h:w.ownsRow base e r.size v n cells)(hn:n=xs.length)
  (hR:∀k x,xs[k]? = some x→r.R w ((cells.drop (k*r.size)).take r.size) x):Sl r w v xs:=by
 subst hn;rcases h.2 with⟨rfl,h0⟩ | ⟨g,cap,cur,rfl,_,hg,hnc,hcm,hcs,ht⟩
 ·obtain rfl:xs=[]:=List.eq_nil_of_length_eq_zero h0;exact Sl.nil_ r w
 ·refine⟨_,cap,rfl,hnc,⟨hcm,fun h=>by cases h⟩,fun _=>⟨g,0,rfl,fun k x hx=>⟨_,hR k x hx,fun j u hu=>?_⟩⟩⟩;rw[cell_of_row w g _ cur e (0,0) hg];rw[List.getElem?_take] at hu;split at hu
  ·rw[List.getElem?_drop,←ht,List.getElem?_take] at hu;split at hu
   ·simpa using hu
   ·cases hu
  ·cases hu
structure Elem(P:Program)(t e:TypeId)(size bytes:Nat):Prop where
 und:P.underlying t=some (.slice e)
 inf:∃i z,P.info? e=some i∧i.zero=some z∧i.size=size∧i.bytes=bytes∧z.cells.size=size
 pos:0<size
theorem Elem.mk_{P:Program}{t e:TypeId}{size bytes:Nat}{z:Value}(h1:P.underlying t=some (.slice e))(h2:(P.info? e).map (fun i=>(i.zero,i.size,i.bytes))=some (some z,size,bytes))(h3:z.cells.size=size)(h4:0<size):Elem P t e size bytes:=by
 obtain⟨i,hi,hz0,hz1,hz2⟩:=info_parts h2;exact⟨h1,⟨i,z,hi,hz0,hz1,hz2,h3⟩,h4⟩
theorem Bel.grown{w w':World}(h:Bel w w')(row:Option Nat):w.grownBy w' row:=⟨h.os,h.tape,h.output,h.size,fun k hk _=>h.block k hk⟩
theorem Bel.own{w w':World}(h:Bel w w'){base:Nat}{e:TypeId}{size:Nat}{v:Value}{n:Nat}{xs:List Value}(ho:w.ownsRow base e size v n xs):w'.ownsRow base e size v n xs:=
 ho.kept (h.grown none) (by cases hv:v.ownBlock<;>simp)
theorem Below.ofGrown{B:Nat}{a w w':World}{v:Value}{base:Nat}{e:TypeId}{size n:Nat}{xs:List Value}(h:Below B a w)(ho:w.ownsRow base e size v n xs)(hg:w.grownBy w' v.ownBlock)(hB:B≤base)(hw:B≤w.heap.size):Below B a w':=
 h.grown hg hw (fun k hk=>by have:=(ho.lt k hk).1;omega)
section
variable {P:Program}(W:World)
theorem b2v{ops:Array Oper}{rest:List Oper}{o:Oper}{a:Act}{Q:Exit→Act→World→Prop}(hgd:o.guard=none)(s x:Operand)(t:TypeId)
  (ho:o.op=.call { callee:=.builtin .append,args:=#[s,x],argTypes:=#[t,t] }) (base:Nat) {e:TypeId} {size bytes:Nat} (E:Elem P t e size bytes)
  (v:Value) (n:Nat) (xs:List Value) (hs:a.eval s=v) (hown:W.ownsRow base e size v n xs) (cs:List Value) (hx:a.eval x=.slice (some ⟨W.heap.size,0,none⟩) 1 1)
  (hl:cs.length=size) (h1:∀u∈cs,u.oneCell'=true) (h63:n+1≤maxLen) (hbytes:(n+1)*bytes≤140737488355328) (hbase:base≤W.heap.size)
  (h:∀g cap w',w'.ownsRow base e size (.slice (some ⟨g,0,none⟩) (n+1) cap) (n+1) (xs++cs)→W.grownBy w' v.ownBlock→(v.ownBlock=some g∨W.heap.size≤g) →
   wpList P ops Q rest (a.put o.dst (.slice (some ⟨g,0,none⟩) (n+1) cap)) w'):wpList P ops Q (o::rest) a (W.alloc (.cells cs.toArray e)):=by
 obtain⟨i,z,hi,hz,hz1,hz2,hz3⟩:=E.inf
 have hnew:∀j u,cs[j]? = some u→(W.alloc (.cells cs.toArray e)).cell? ((⟨W.heap.size,0,none⟩:Addr).add j)=some u:=by
  intro j u hu;have hadd:(⟨W.heap.size,0,none⟩:Addr).add j=⟨W.heap.size,j,none⟩:=by unfold Addr.add;split<;>simp_all
  rw[hadd,cell_of_row _ W.heap.size j cs.toArray e (0,0) (heap_alloc_new W _)]
  simpa using hu
 refine wpList_append_lies (W.alloc (.cells cs.toArray e)) hgd s x t ho base e i z size bytes E.und hi hz hz1 hz2 hz3 E.pos v n xs hs (hown.alloc _) ⟨W.heap.size,0,none⟩ 1 1 cs hx (by omega) hnew h1 (by omega) h63 hbytes (by simp;omega) _ rfl ?_;intro g cap w' h2 h3 h4 _;refine h g cap w' h2 ?_ (h4.imp id fun e=>by rw[e];simp);exact⟨h3.os,h3.tape,h3.output,Nat.le_trans (by simp) h3.size,fun k hk hne=>(h3.block k (by simp;omega) hne).trans (heap_alloc_old W _ hk)⟩
theorem b6s{ops:Array Oper}{o:Oper}{a:Act}{K:Act→World→Prop}{Q:Exit→Act→World→Prop}{EE:Prop}(hgd:o.guard=none)(s x:Operand)(t:TypeId)
  (ho:o.op=.call { callee:=.builtin .append,args:=#[s,x],argTypes:=#[t,t] }) (base:Nat) {e:TypeId} {size bytes:Nat} (E:Elem P t e size bytes)
  (v:Value) (n:Nat) (xs:List Value) (hs:a.eval s=v) (hown:W.ownsRow base e size v n xs) (cs:List Value) (H:Nat) (hH:W.heap.size=H) (hx:a.eval x=.slice (some ⟨H,0,none⟩) 1 1)
  (hl:cs.length=size) (h1:∀u∈cs,u.oneCell'=true) (h63:n+1≤maxLen) (hbytes:(n+1)*bytes≤140737488355328) (hbase:base≤W.heap.size)
  (h:∀g cap w',w'.ownsRow base e size (.slice (some ⟨g,0,none⟩) (n+1) cap) (n+1) (xs++cs)→W.grownBy w' v.ownBlock→(v.ownBlock=some g∨W.heap.size≤g) →
   K (a.put o.dst (.slice (some ⟨g,0,none⟩) (n+1) cap)) w') {w0:World} (hw0:w0=W.alloc (.cells cs.toArray e)):if Region.wanted o (yielded ops a.tmps)=true then Oper.wp P o a w0 K Q else EE:=by
 subst hw0;subst hH;obtain⟨i,z,hi,hz,hz1,hz2,hz3⟩:=E.inf
 have hnew:∀j u,cs[j]? = some u→(W.alloc (.cells cs.toArray e)).cell? ((⟨W.heap.size,0,none⟩:Addr).add j)=some u:=by
  intro j u hu;have hadd:(⟨W.heap.size,0,none⟩:Addr).add j=⟨W.heap.size,j,none⟩:=by unfold Addr.add;split<;>simp_all
  rw[hadd,cell_of_row _ W.heap.size j cs.toArray e (0,0) (heap_alloc_new W _)]
  simpa using hu
 refine step_append_lies (W.alloc (.cells cs.toArray e)) hgd s x t ho base e i z size bytes E.und hi hz hz1 hz2 hz3 E.pos v n xs hs (hown.alloc _) ⟨W.heap.size,0,none⟩ 1 1 cs hx (by omega) hnew h1 (by omega) h63 hbytes (by simp;omega) _ rfl ?_;intro g cap w' h2 h3 h4 _;refine h g cap w' h2 ?_ (h4.imp id fun e=>by rw[e];simp);exact⟨h3.os,h3.tape,h3.output,Nat.le_trans (by simp) h3.size,fun k hk hne=>(h3.block k (by simp;omega) hne).trans (heap_alloc_old W _ hk)⟩
end
def Blk(w:World)(g:Nat)(t:TypeId)(cs:Array Value):Prop:=w.heap[g]? = some (.cells cs t (0,0))
section
variable {w w':World}{g:Nat}{t:TypeId}{cs:Array Value}
theorem Blk.lt(h:Blk w g t cs):g<w.heap.size:=(Array.getElem?_eq_some_iff.1 h).1
theorem Blk.cell(h:Blk w g t cs){i:Nat}{v:Value}(hi:cs[i]? = some v):w.cell? ⟨g,i,none⟩=some v:=(cell_of_row w g i cs t (0,0) h).trans hi
theorem Blk.frozen(h:Blk w g t cs)(i:Nat):w.frozen? ⟨g,i,none⟩=false:=frozen_of_row w g i cs t h
theorem Blk.new(w:World)(t:TypeId)(cs:Array Value):Blk (w.alloc (.cells cs t)) w.heap.size t cs:=heap_alloc_new w _
theorem Blk.keep(h:Blk w g t cs)(hb:Bel w w'):Blk w' g t cs:=(hb.block g h.lt).trans h
theorem Blk.grown(h:Blk w g t cs){row:Option Nat}(hg:w.grownBy w' row)(hne:some g≠row):Blk w' g t cs:=(hg.block g h.lt hne).trans h
theorem Blk.set_(h:Blk w g t cs)(i:Nat)(v:Value):Blk (w.setCell ⟨g,i,none⟩ v) g t (cs.setIfInBounds i v):=heap_setCell_same w g i cs t v h
end
def SlF(w:World)(v:Value)(n size:Nat)(f:Nat→List Value):Prop:=
 ∃A c,v=.slice A n c∧n≤c∧(c≤maxLen∧(A=none→c=0))∧(0<n→∃b o,A=some ⟨b,o,none⟩∧∀i,i<n→b0x w b (o+i*size) (f i))
theorem SlF.keep{w w':World}(hb:Bel w w'){v:Value}{n size:Nat}{f:Nat→List Value}(h:SlF w v n size f):SlF w' v n size f:=by
 obtain⟨A,c,h1,h2,h3,h4⟩:=h;refine⟨A,c,h1,h2,h3,fun hp=>?_⟩;obtain⟨b,o,hA,hc⟩:=h4 hp;exact⟨b,o,hA,fun i hi=>(hc i hi).keep hb⟩
theorem SlF.sl{α:Type}{r:Rep α}{w:World}{v:Value}{xs:List α}{f:Nat→List Value}(h:SlF w v xs.length r.size f)(hf:∀i x,xs[i]? = some x→r.R w (f i) x):Sl r w v xs:=by
 obtain⟨A,c,h1,h2,h3,h4⟩:=h;refine⟨A,c,h1,h2,h3,fun hp=>?_⟩;obtain⟨b,o,hA,hc⟩:=h4 hp;exact⟨b,o,hA,fun k x hx=>⟨f k,hf k x hx,hc k (List.getElem?_eq_some_iff.1 hx).1⟩⟩
theorem Sl.frame{α:Type}{r:Rep α}{w:World}{v:Value}{xs:List α}(h:Sl r w v xs):∃f,SlF w v xs.length r.size f∧∀i x,xs[i]? = some x→r.R w (f i) x:=by
 obtain⟨A,c,h1,h2,h3,h4⟩:=h;rcases Nat.eq_zero_or_pos xs.length with h0 | h0
 ·exact⟨fun _=>[],⟨A,c,h1,h2,h3,fun hp=>by omega⟩,fun i x hx=>by have:=(List.getElem?_eq_some_iff.1 hx).1;omega⟩
 ·obtain⟨b,o,hA,hc⟩:=h4 h0
  have hx:∀i,∃cs,∀x,xs[i]? = some x→r.R w cs x∧b0x w b (o+i*r.size) cs:=fun i=>by
   cases hx:xs[i]? with
   | none=>exact⟨[],fun _ h=>by cases h⟩
   | some x =>
    obtain⟨cs,h5,h6⟩:=hc i x hx;exact⟨cs,fun y hy=>by obtain rfl:=Option.some.inj hy;exact⟨h5,h6⟩⟩
  refine⟨fun i=>Classical.choose (hx i),⟨A,c,h1,h2,h3,fun _=>⟨b,o,hA,fun i hi=>?_⟩⟩,fun i x hi=>(Classical.choose_spec (hx i) x hi).1⟩;exact(Classical.choose_spec (hx i) xs[i] (List.getElem?_eq_getElem hi)).2
inductive TE where
 | mk (kind at_ n:Int) (name:ByteArray) (args:List TE)
namespace TE
def kind:TE→Int | .mk k _ _ _ _=>k
def at_:TE→Int | .mk _ a _ _ _=>a
def n:TE→Int | .mk _ _ n _ _=>n
def name:TE→ByteArray | .mk _ _ _ s _=>s
def args:TE→List TE | .mk _ _ _ _ l=>l
theorem ind{p:TE→Prop}(h:∀k a n s args,(∀x∈args,p x)→p (.mk k a n s args)):∀e,p e
 | .mk k a n s args=>h k a n s args fun x _hx=>ind h x
 termination_by e=>SizeOf.sizeOf e
 decreasing_by
  have:=List.sizeOf_lt_of_mem _hx;simp only[TE.mk.sizeOf_spec];omega
end TE
inductive TC where
 | mk (kind at_:Int) (name other:ByteArray) (index expr:TE) (args:List TE) (thn els:List TC)
namespace TC
def kind:TC→Int | .mk k _ _ _ _ _ _ _ _=>k
def at_:TC→Int | .mk _ a _ _ _ _ _ _ _=>a
def name:TC→ByteArray | .mk _ _ s _ _ _ _ _ _=>s
def other:TC→ByteArray | .mk _ _ _ s _ _ _ _ _=>s
def index:TC→TE | .mk _ _ _ _ e _ _ _ _=>e
def expr:TC→TE | .mk _ _ _ _ _ e _ _ _=>e
def args:TC→List TE | .mk _ _ _ _ _ _ l _ _=>l
def thn:TC→List TC | .mk _ _ _ _ _ _ _ l _=>l
def els:TC→List TC | .mk _ _ _ _ _ _ _ _ l=>l
theorem ind{p:TC→Prop}(h:∀k a s t i e args thn els,(∀x∈thn,p x)→(∀x∈els,p x)→p (.mk k a s t i e args thn els)):∀x,p x
 | .mk k a s t i e args thn els=>h k a s t i e args thn els (fun x _hx=>ind h x) (fun x _hx=>ind h x)
 termination_by e=>SizeOf.sizeOf e
 decreasing_by
  all_goals
   have:=List.sizeOf_lt_of_mem _hx;simp only[TC.mk.sizeOf_spec];omega
end TC
structure TV where
 name:ByteArray
 size:Int
deriving DecidableEq
structure TF where
 at_:Int
 name:ByteArray
 params:List ByteArray
 vars:List TV
 cmds:List TC
 result:TE
inductive TER(w:World):TE→List Value→Prop
 | mk (k a n:Int) (s:ByteArray) (args:List TE) (v:Value) (f:Nat→List Value) (hs:s.size≤maxLen) (hv:SlF w v args.length 5 f) (hf:∀i x,args[i]? = some x→TER w x (f i)) :
   TER w (.mk k a n s args) [.int .i64 k,.int .i64 a,.int .i64 n,.string s,v]
theorem TER.keep{w w':World}(hb:Bel w w'){e:TE}{cs:List Value}(h:TER w e cs):TER w' e cs:=by
 induction h with
 | mk k a n s args v f hs hv hf ih=>exact .mk k a n s args v f hs (hv.keep hb) ih
def teR:Rep TE where
 size:=5
 R w cs e:=TER w e cs
 len h:=by cases h;rfl
 keep hb h:=h.keep hb
theorem TER.opened{w:World}{k a n:Int}{s:ByteArray}{args:List TE}{cs:List Value}(h:TER w (.mk k a n s args) cs):∃v,cs=[.int .i64 k,.int .i64 a,.int .i64 n,.string s,v]∧s.size≤maxLen∧Sl teR w v args:=by
 cases h with
 | mk _ _ _ _ _ v f hs hv hf=>exact⟨v,rfl,hs,hv.sl (r:=teR) hf⟩
theorem TER.shut{w:World}{k a n:Int}{s:ByteArray}{args:List TE}{v:Value}(hs:s.size≤maxLen)(h:Sl teR w v args):TER w (.mk k a n s args) [.int .i64 k,.int .i64 a,.int .i64 n,.string s,v]:=by
 obtain⟨f,h1,h2⟩:=h.frame;exact .mk k a n s args v f hs h1 h2
inductive TCR(w:World):TC→List Value→Prop
 | mk (k a:Int) (s t:ByteArray) (i e:TE) (args:List TE) (thn els:List TC) (ci ce:List Value) (va vt ve:Value) (ft fe:Nat→List Value) (hs:s.size≤maxLen) (ht:t.size≤maxLen) (hi:TER w i ci) (he:TER w e ce) (ha:Sl teR w va args)
   (hvt:SlF w vt thn.length 17 ft) (hft:∀i x,thn[i]? = some x→TCR w x (ft i)) (hve:SlF w ve els.length 17 fe) (hfe:∀i x,els[i]? = some x→TCR w x (fe i)) :
   TCR w (.mk k a s t i e args thn els) ([.int .i64 k,.int .i64 a,.string s,.string t]++ci++ce++[va,vt,ve])
theorem TCR.keep{w w':World}(hb:Bel w w'){x:TC}{cs:List Value}(h:TCR w x cs):TCR w' x cs:=by
 induction h with
 | mk k a s t i e args thn els ci ce va vt ve ft fe hs ht hi he ha hvt hft hve hfe ih1 ih2=>exact .mk k a s t i e args thn els ci ce va vt ve ft fe hs ht (hi.keep hb) (he.keep hb) (ha.keep hb) (hvt.keep hb) ih1 (hve.keep hb) ih2
def tcR:Rep TC where
 size:=17
 R w cs x:=TCR w x cs
 len h:=by
  cases h with
  | mk _ _ _ _ _ _ _ _ _ ci ce _ _ _ _ _ _ _ hi he =>
   have h1:ci.length=5:=teR.len (w:=_) (x:=_) hi;have h2:ce.length=5:=teR.len (w:=_) (x:=_) he;simp[h1,h2]
 keep hb h:=h.keep hb
theorem TCR.opened{w:World}{k a:Int}{s t:ByteArray}{i e:TE}{args:List TE}{thn els:List TC}{cs:List Value}(h:TCR w (.mk k a s t i e args thn els) cs):∃vi ve va vt vs,
  cs=[.int .i64 k,.int .i64 a,.string s,.string t,.int .i64 i.kind,.int .i64 i.at_,.int .i64 i.n,.string i.name,vi,.int .i64 e.kind,.int .i64 e.at_,.int .i64 e.n,.string e.name,ve,va,vt,vs] ∧
  s.size≤maxLen∧t.size≤maxLen∧i.name.size≤maxLen∧e.name.size≤maxLen∧Sl teR w vi i.args∧Sl teR w ve e.args∧Sl teR w va args∧Sl tcR w vt thn∧Sl tcR w vs els:=by
 cases h with
 | mk _ _ _ _ _ _ _ _ _ ci ce va vt vs ft fe hs ht hi he ha hvt hft hve hfe =>
  obtain⟨ik,ia,iN,is_,iargs⟩:=i;obtain⟨ek,ea,eN,es,eargs⟩:=e;obtain⟨vi,rfl,h1,h2⟩:=hi.opened;obtain⟨ve,rfl,h3,h4⟩:=he.opened;exact⟨vi,ve,va,vt,vs,rfl,hs,ht,h1,h3,h2,h4,ha,hvt.sl (r:=tcR) hft,hve.sl (r:=tcR) hfe⟩
theorem TCR.shut{w:World}{k a:Int}{s t:ByteArray}{i e:TE}{args:List TE}{thn els:List TC}{vi ve va vt vs:Value}(hs:s.size≤maxLen)(ht:t.size≤maxLen)(hin:i.name.size≤maxLen)(hen:e.name.size≤maxLen)
  (hi:Sl teR w vi i.args) (he:Sl teR w ve e.args) (ha:Sl teR w va args) (hT:Sl tcR w vt thn) (hE:Sl tcR w vs els) :
  TCR w (.mk k a s t i e args thn els) [.int .i64 k,.int .i64 a,.string s,.string t,.int .i64 i.kind,.int .i64 i.at_,.int .i64 i.n,.string i.name,vi,.int .i64 e.kind,.int .i64 e.at_,.int .i64 e.n,.string e.name,ve,va,vt,vs]:=by
 obtain⟨ft,h1,h2⟩:=hT.frame;obtain⟨fe,h3,h4⟩:=hE.frame;obtain⟨ik,ia,iN,is_,iargs⟩:=i;obtain⟨ek,ea,eN,es,eargs⟩:=e;exact .mk k a s t _ _ args thn els [.int .i64 ik,.int .i64 ia,.int .i64 iN,.string is_,vi] [.int .i64 ek,.int .i64 ea,.int .i64 eN,.string es,ve] va vt vs ft fe hs ht (.shut hin hi) (.shut hen he) ha h1 h2 h3 h4
def tvR:Rep TV where
 size:=2
 R _ cs x:=cs=[.string x.name,.int .i64 x.size]∧x.name.size≤maxLen
 len h:=by obtain⟨rfl,_⟩:=h;rfl
 keep _ h:=h
def nmR:Rep ByteArray where
 size:=1
 R _ cs x:=cs=[.string x]∧x.size≤maxLen
 len h:=by obtain⟨rfl,_⟩:=h;rfl
 keep _ h:=h
def TFR(w:World)(x:TF)(cs:List Value):Prop:=∃vp vv vc vr,cs=[.int .i64 x.at_,.string x.name,vp,vv,vc,.int .i64 x.result.kind,.int .i64 x.result.at_,.int .i64 x.result.n,.string x.result.name,vr]∧x.name.size≤maxLen∧x.result.name.size≤maxLen ∧
 Sl nmR w vp x.params∧Sl tvR w vv x.vars∧Sl tcR w vc x.cmds∧Sl teR w vr x.result.args
def tfR:Rep TF where
 size:=10
 R w cs x:=TFR w x cs
 len h:=by obtain⟨_,_,_,_,rfl,_⟩:=h;rfl
 keep hb h:=by
  obtain⟨vp,vv,vc,vr,h1,h2,h3,h4,h5,h6,h7⟩:=h;exact⟨vp,vv,vc,vr,h1,h2,h3,h4.keep hb,h5.keep hb,h6.keep hb,h7.keep hb⟩
def TEV(w:World)(e:TE)(val:Value):Prop:=∃v,val=.agg #[.int .i64 e.kind,.int .i64 e.at_,.int .i64 e.n,.string e.name,v]∧e.name.size≤maxLen∧Sl teR w v e.args
theorem TEV.keep{w w':World}(hb:Bel w w'){e:TE}{val:Value}(h:TEV w e val):TEV w' e val:=by
 obtain⟨v,h1,h2,h3⟩:=h;exact⟨v,h1,h2,h3.keep hb⟩
theorem teR.cells{w:World}{b o:Nat}{xs:List TE}(h:∀k x,xs[k]? = some x→teR.At w b (o+k*teR.size) x){k:Nat}{x:TE}(hk:xs[k]? = some x) :
  ∃A m c,Sl teR w (.slice A m c) x.args∧x.name.size≤maxLen∧w.cell? ⟨b,o+k*5,none⟩=some (.int .i64 x.kind)∧w.cell? ⟨b,o+k*5+1,none⟩=some (.int .i64 x.at_)∧w.cell? ⟨b,o+k*5+2,none⟩=some (.int .i64 x.n) ∧
  w.cell? ⟨b,o+k*5+3,none⟩=some (.string x.name)∧w.cell? ⟨b,o+k*5+4,none⟩=some (.slice A m c):=by
 obtain⟨cs,hc,hcs⟩:=h k x hk;obtain⟨k',a',n',s',args⟩:=x;obtain⟨v,rfl,h1,hs⟩:=TER.opened hc;have hs':=hs;obtain⟨A,c,rfl,_⟩:=hs;exact⟨A,_,c,hs',h1,hcs 0 _ rfl,hcs 1 _ rfl,hcs 2 _ rfl,hcs 3 _ rfl,hcs 4 _ rfl⟩
structure Tok where
 kind:Int
 at_:Int
 text:ByteArray
deriving DecidableEq
def isL(b:Nat):Bool:=decide (97≤b) && decide (b≤122)
def isD(b:Nat):Bool:=decide (48≤b) && decide (b≤57)
def b3v(b:Nat):Bool:=isL b || isD b
def b5q(b:Nat):Bool:=b==32 || b==9 || b==10
def c2V:List Nat:=[123,125,40,41,91,93,59,44,61,43,45,42,47,37,60]
def isS(b:Nat):Bool:=c2V.contains b
def b1F(p:Nat→Bool)(s:ByteArray)(i:Nat):Nat:=
 if h:i<s.size then if p s[i].toNat then b1F p s (i+1) else i else i
termination_by s.size-i
theorem b3z{p:Nat→Bool}{s:ByteArray}{i:Nat}(h:¬i<s.size):b1F p s i=i:=by rw[b1F,dif_neg h]
theorem b6n{p:Nat→Bool}{s:ByteArray}{i:Nat}(h:i<s.size)(hp:p s[i].toNat=true):b1F p s i=b1F p s (i+1):=by
 rw[b1F,dif_pos h,if_pos hp]
theorem b7x{p:Nat→Bool}{s:ByteArray}{i:Nat}(h:i<s.size)(hp:p s[i].toNat=false):b1F p s i=i:=by
 rw[b1F,dif_pos h,if_neg (by simp[hp])]
theorem b8y(p:Nat→Bool)(s:ByteArray):∀(n i:Nat),s.size-i=n→i≤b1F p s i∧(i≤s.size→b1F p s i≤s.size)
 | n,i,hn=>by
  by_cases h:i<s.size
  ·cases hp:p s[i].toNat with
   | true =>
    rw[b6n h hp];have:=b8y p s (n-1) (i+1) (by omega);omega
   | false=>rw[b7x h hp];omega
  ·rw[b3z h];omega
termination_by n=>n
theorem b4r(p:Nat→Bool)(s:ByteArray)(i:Nat):i≤b1F p s i:=(b8y p s _ i rfl).1
theorem b4s(p:Nat→Bool)(s:ByteArray){i:Nat}(h:i≤s.size):b1F p s i≤s.size:=(b8y p s _ i rfl).2 h
def b0X(s:ByteArray)(i:Nat):Nat×Nat:=
 if h:i<s.size then
  if isL s[i].toNat then(1,b1F b3v s (i+1)-i)
  else if isD s[i].toNat then(2,b1F isD s (i+1)-i)
  else if s[i].toNat=61∧∃h:i+1<s.size,s[i+1].toNat=61 then(3,2)
  else if isS s[i].toNat then(3,1)
  else(0,0)
 else(0,0)
def b1I(s:ByteArray)(i:Nat):Int:=
 if(b0X s i).1=0 then 1
 else if((b0X s i).1=1∧12<(b0X s i).2)∨((b0X s i).1=2∧7<(b0X s i).2) then 2
 else if(b0X s i).1=2∧1<(b0X s i).2∧∃h:i<s.size,s[i].toNat=48 then 1
 else 0
theorem b2B{s:ByteArray}{i:Nat}(h:(b0X s i).1≠0):0<(b0X s i).2∧i+(b0X s i).2≤s.size:=by
 unfold b0X at h ⊢;by_cases hi:i<s.size
 ·rw[dif_pos hi] at h ⊢;by_cases h1:isL s[i].toNat=true
  ·rw[if_pos h1];have h2:=b4r b3v s (i+1);have h3:=b4s b3v s (i:=i+1) (by omega);simp only;omega
  ·rw[if_neg h1] at h ⊢;by_cases h1:isD s[i].toNat=true
   ·rw[if_pos h1];have h2:=b4r isD s (i+1);have h3:=b4s isD s (i:=i+1) (by omega);simp only;omega
   ·rw[if_neg h1] at h ⊢;by_cases h2:s[i].toNat=61∧∃h:i+1<s.size,s[i+1].toNat=61
    ·rw[if_pos h2];obtain⟨_,h3,_⟩:=h2;simp only;omega
    ·rw[if_neg h2] at h ⊢;by_cases h3:isS s[i].toNat=true
     ·rw[if_pos h3];simp only;omega
     ·rw[if_neg h3] at h;simp at h
 ·rw[dif_neg hi] at h;simp at h
theorem b1a{s:ByteArray}{i:Nat}(h:b1I s i=0):(b0X s i).1≠0:=by
 intro h0;unfold b1I at h;rw[if_pos h0] at h;omega
def b1f(s:ByteArray)(i:Nat):Tok:=⟨(b0X s i).1,i,s.extract i (i+(b0X s i).2)⟩
def b1z(s:ByteArray)(i:Nat)(note:Bool)(acc:List Tok):List Tok×Int×Int:=
 if h:i<s.size then
  if note || s[i].toNat==35 then b1z s (i+1) (s[i].toNat != 10) acc
  else if b5q s[i].toNat then b1z s (i+1) false acc
  else if h0:b1I s i=0 then b1z s (i+(b0X s i).2) false (acc++[b1f s i])
  else([],i,b1I s i)
 else(acc,0,0)
termination_by s.size-i
decreasing_by
 ·omega
 ·omega
 ·have:=b2B (b1a h0);omega
theorem b3g{s:ByteArray}{i:Nat}{note:Bool}{acc:List Tok}(h:¬i<s.size):b1z s i note acc=(acc,0,0):=by rw[b1z,dif_neg h]
theorem b6D{s:ByteArray}{i:Nat}{note:Bool}{acc:List Tok}(h:i<s.size)(hn:(note || s[i].toNat==35)=true):b1z s i note acc=b1z s (i+1) (s[i].toNat != 10) acc:=by
 rw[b1z,dif_pos h,if_pos hn]
theorem b6p{s:ByteArray}{i:Nat}{note:Bool}{acc:List Tok}(h:i<s.size)(hn:(note || s[i].toNat==35)=false)(hb:b5q s[i].toNat=true):b1z s i note acc=b1z s (i+1) false acc:=by
 rw[b1z,dif_pos h,if_neg (by simp[hn]),if_pos hb]
theorem b4c{s:ByteArray}{i:Nat}{note:Bool}{acc:List Tok}(h:i<s.size)(hn:(note || s[i].toNat==35)=false)(hb:b5q s[i].toNat=false)(h0:b1I s i=0) :
  b1z s i note acc=b1z s (i+(b0X s i).2) false (acc++[b1f s i]):=by
 rw[b1z,dif_pos h,if_neg (by simp[hn]),if_neg (by simp[hb]),dif_pos h0]
theorem b7Y{s:ByteArray}{i:Nat}{note:Bool}{acc:List Tok}(h:i<s.size)(hn:(note || s[i].toNat==35)=false)(hb:b5q s[i].toNat=false)(h0:b1I s i≠0) :
  b1z s i note acc=([],(i:Int),b1I s i):=by
 rw[b1z,dif_pos h,if_neg (by simp[hn]),if_neg (by simp[hb]),dif_neg h0]
def b0N(s:ByteArray):List Tok×Int×Int:=if 6000<s.size then([],0,2) else b1z s 0 false []
def b1Y(s:ByteArray)(i:Nat)(note:Bool):Nat:=
 if h:i<s.size then
  if note || s[i].toNat==35 then b1Y s (i+1) (s[i].toNat != 10)
  else if b5q s[i].toNat then b1Y s (i+1) false
  else i
 else i
termination_by s.size-i
theorem b4B{s:ByteArray}{i:Nat}{note:Bool}(h:¬i<s.size):b1Y s i note=i:=by rw[b1Y,dif_neg h]
theorem b2u{s:ByteArray}{i:Nat}{note:Bool}(h:i<s.size)(hn:(note || s[i].toNat==35)=true):b1Y s i note=b1Y s (i+1) (s[i].toNat != 10):=by
 rw[b1Y,dif_pos h,if_pos hn]
theorem b5m{s:ByteArray}{i:Nat}{note:Bool}(h:i<s.size)(hn:(note || s[i].toNat==35)=false)(hb:b5q s[i].toNat=true):b1Y s i note=b1Y s (i+1) false:=by
 rw[b1Y,dif_pos h,if_neg (by simp[hn]),if_pos hb]
theorem b4z{s:ByteArray}{i:Nat}{note:Bool}(h:i<s.size)(hn:(note || s[i].toNat==35)=false)(hb:b5q s[i].toNat=false):b1Y s i note=i:=by
 rw[b1Y,dif_pos h,if_neg (by simp[hn]),if_neg (by simp[hb])]
theorem b6r(s:ByteArray):∀(n i:Nat) (note:Bool),s.size-i=n→i≤b1Y s i note∧(i≤s.size→b1Y s i note≤s.size)
 | n,i,note,hn=>by
  by_cases h:i<s.size
  ·cases h1:(note || s[i].toNat==35) with
   | true =>
    rw[b2u h h1];have:=b6r s (n-1) (i+1) (s[i].toNat != 10) (by omega);omega
   | false =>
    cases h2:b5q s[i].toNat with
    | true =>
     rw[b5m h h1 h2];have:=b6r s (n-1) (i+1) false (by omega);omega
    | false=>rw[b4z h h1 h2];omega
  ·rw[b4B h];omega
termination_by n=>n
theorem c5d(s:ByteArray)(i:Nat)(note:Bool):i≤b1Y s i note:=(b6r s _ i note rfl).1
theorem b8F(s:ByteArray){i:Nat}(note:Bool)(h:i≤s.size):b1Y s i note≤s.size:=(b6r s _ i note rfl).2 h
theorem b4v(s:ByteArray)(acc:List Tok):∀(n i:Nat) (note:Bool),s.size-i=n→b1z s i note acc=b1z s (b1Y s i note) false acc
 | n,i,note,hn=>by
  by_cases h:i<s.size
  ·cases h1:(note || s[i].toNat==35) with
   | true=>rw[b2u h h1,b6D h h1];exact b4v s acc (n-1) (i+1) _ (by omega)
   | false =>
    cases h2:b5q s[i].toNat with
    | true=>rw[b5m h h1 h2,b6p h h1 h2];exact b4v s acc (n-1) (i+1) _ (by omega)
    | false =>
     rw[b4z h h1 h2];have h3:note=false:=by simp at h1;exact h1.1
     rw[h3]
  ·rw[b4B h,b3g h,b3g h]
termination_by n=>n
theorem b6q(s:ByteArray):∀(n i:Nat) (note:Bool),s.size-i=n→∀h:b1Y s i note<s.size,(false || s[b1Y s i note].toNat==35)=false∧b5q s[b1Y s i note].toNat=false
 | n,i,note,hn=>by
  by_cases h:i<s.size
  ·cases h1:(note || s[i].toNat==35) with
   | true=>rw[b2u h h1];exact b6q s (n-1) (i+1) _ (by omega)
   | false =>
    cases h2:b5q s[i].toNat with
    | true=>rw[b5m h h1 h2];exact b6q s (n-1) (i+1) _ (by omega)
    | false =>
     intro h3;have h4:=b4z h h1 h2;simp only[h4];simp at h1;exact⟨by simpa using h1.2,h2⟩
  ·rw[b4B h];intro h3;omega
termination_by n=>n
theorem c1N{s:ByteArray}{i:Nat}(h:i<s.size→s[i]!.toNat=10):b1Y s i true=b1Y s i false:=by
 by_cases hi:i<s.size
 ·have h10:s[i].toNat=10:=by
   have:=h hi
   rwa [getElem!_pos s i hi] at this
  rw[b2u hi (by simp),b5m hi (by simp[h10]) (by simp[b5q,h10])];simp[h10]
 ·rw[b4B hi,b4B hi]
end Go.Proofs.YtmfjlcpjemccmaaGreatDoor
