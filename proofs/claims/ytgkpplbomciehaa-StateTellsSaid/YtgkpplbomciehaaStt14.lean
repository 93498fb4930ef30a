/- The topmost frame of the document's machine, and what turns it. Each lemma states its own conditions. -/
import Derived.Test.YtgkpplbomciehaaStt13
import Derived.Still
import Derived.StillTail
import Derived.LoopN
import Derived.Orders
namespace Go.Proofs.Ytgkpplbomciehaa
open Go.RowKit
section
variable {w0 w w':World}{f f':Fr}{x x':FrX}{fs:List Fr}{xs:List FrX}{gf cap n:Nat}
theorem FrmsM.top{vfr:Value}(h:FrmsM w0 w vfr (f::fs) (x::xs)):∃gf cap,vfr=.slice (some ⟨gf,0,none⟩) (fs.length+1) cap∧w0.heap.size≤gf∧(∀j u,(b4J f x)[j]? = some u→w.cell? ⟨gf,fs.length*5+j,none⟩=some u)∧∃cur,Blk w gf FRT cur:=by
 obtain⟨gf,cap,rfl,h1,h2,h3,h4,h5⟩:=b2B h.row (by simp);refine⟨gf,cap,rfl,h1,fun j u hu=>h4 _ u ?_,h5⟩;rw[frC,List.getElem?_append_right (by rw[b4D (by simpa using h.len)];omega),b4D (by simpa using h.len),show fs.length*5+j-fs.length*5=j by omega];exact hu
theorem FrmsM.two{vfr:Value}{c:Fr}{y:FrX}(h:FrmsM w0 w vfr (f::c::fs) (x::y::xs)):∃gf cap,vfr=.slice (some ⟨gf,0,none⟩) (fs.length+2) cap∧(∀j u,(b4J c y)[j]? = some u→w.cell? ⟨gf,fs.length*5+j,none⟩=some u):=by
 obtain⟨gf,cap,rfl,h1,h2,h3,h4,h5⟩:=b2B h.row (by simp);refine⟨gf,cap,rfl,fun j u hu=>h4 _ u ?_⟩;have hl:(frC fs xs).length=fs.length*5:=b4D (by simpa using h.len);rw[frC,frC,List.append_assoc,List.getElem?_append_right (by omega),hl,show fs.length*5+j-fs.length*5=j by omega,List.getElem?_append_left (List.getElem?_eq_some_iff.1 hu).1];exact hu
theorem FrmsM.set_top(h:FrmsM w0 w (.slice (some ⟨gf,0,none⟩) (fs.length+1) cap) (f::fs) (x::xs)){cur:Array Value}(hb:Blk w gf FRT cur)(j:Nat)(u:Value)(hj:j<5)(hc:b4J f' x'=(b4J f x).set j u)(hd:FrD w0 (w.setCell ⟨gf,fs.length*5+j,none⟩ u) f' x')(hg:x'.gs=x.gs)(ht:x'.tb=x.tb∨∀y∈xs,y.tb≠x'.tb) :
  FrmsM w0 (w.setCell ⟨gf,fs.length*5+j,none⟩ u) (.slice (some ⟨gf,0,none⟩) (fs.length+1) cap) (f'::fs) (x'::xs):=by
 have hl:(frC fs xs).length=fs.length*5:=b4D (by simpa using h.len);refine⟨?_,by simpa using h.len,fun i f2 x2 hf hx=>?_,?_,?_⟩
 ·have h1:=b3q h.row (fs.length*5+j) u;rw[frC,hc];rw[frC,List.set_append,if_neg (by omega),hl,show fs.length*5+j-fs.length*5=j by omega] at h1;exact h1
 ·cases i with
  | zero =>
   obtain rfl:f'=f2:=by simpa using hf
   obtain rfl:x'=x2:=by simpa using hx
   exact hd
  | succ i=>exact(h.at_ (i+1) f2 x2 (by simpa using hf) (by simpa using hx)).by_ fun k t cs ht hB=>hB.aside hb (by rcases ht with rfl | rfl | rfl<;>decide) _ u
 ·have:=h.nd;rw[List.flatMap_cons] at this ⊢;rw[hg];exact this
 ·have:=h.td;rw[List.map_cons,List.nodup_cons] at this ⊢;refine⟨fun hm=>?_,this.2⟩;rcases ht with ht | ht
  ·rw[ht] at hm;exact this.1 hm
  ·obtain⟨y,hy,hye⟩:=List.mem_map.1 hm;exact ht y hy hye
theorem FrmsM.set_at(h:FrmsM w0 w (.slice (some ⟨gf,0,none⟩) (fs.length+1) cap) (f::fs) (x::xs)){cur:Array Value}(hb:Blk w gf FRT cur)(a:Int):FrmsM w0 (w.setCell ⟨gf,fs.length*5+2,none⟩ (.int .i64 a)) (.slice (some ⟨gf,0,none⟩) (fs.length+1) cap) ({ f with at_:=a }::fs) (x::xs):=
 have hd:FrD w0 (w.setCell ⟨gf,fs.length*5+2,none⟩ (.int .i64 a)) f x:=(h.at_ 0 f x rfl rfl).by_ fun k t cs ht hB=>hB.aside hb (by rcases ht with rfl | rfl | rfl<;>decide) _ _
 h.set_top hb 2 _ (by decide) rfl ⟨hd.vars,hd.tasks⟩ rfl (.inl rfl)
theorem FrmsM.set_tasks(h:FrmsM w0 w (.slice (some ⟨gf,0,none⟩) (fs.length+1) cap) (f::fs) (x::xs)){cur:Array Value}(hb:Blk w gf FRT cur){vt:Value}{ts:List Tk}{tb:Nat}(ht:TasksT w0 w vt ts tb)(hn:tb=x.tb∨∀y∈xs,y.tb≠tb) :
  FrmsM w0 (w.setCell ⟨gf,fs.length*5+4,none⟩ vt) (.slice (some ⟨gf,0,none⟩) (fs.length+1) cap) ({ f with tasks:=ts }::fs) ({ x with vt:=vt,tb:=tb }::xs):=
 h.set_top hb 4 _ (by decide) rfl ⟨((h.at_ 0 f x rfl rfl).by_ fun k t cs ht hB=>hB.aside hb (by rcases ht with rfl | rfl | rfl<;>decide) _ _).vars,ht.by_ fun cs hB=>hB.aside hb (by decide) _ _⟩ rfl hn
theorem FrmsM.write{vfr:Value}(h:FrmsM w0 w vfr (f::fs) (x::xs)){i j g:Nat}{l:List Int}(hl:f.vars[i]? = some l)(hg:x.gs[i]? = some g)(n:Int) :
  FrmsM w0 (w.setCell ⟨g,j,none⟩ (.int .i64 n)) vfr ({ f with vars:=f.vars.set i (l.set j n) }::fs) (x::xs):=by
 have hD:=h.at_ 0 f x rfl rfl;obtain⟨-,-,hb⟩:=hD.vars.blk i g l hg hl;refine⟨b1E h.row hb (by decide) j _,h.len,fun k f2 x2 hf hx=>?_,h.nd,h.td⟩;cases k with
 | zero =>
  obtain rfl:_=f2:=by simpa using hf
  obtain rfl:x=x2:=by simpa using hx
  exact⟨hD.vars.set hl hg n,hD.tasks.by_ fun cs hB=>hB.aside hb (by decide) _ _⟩
 | succ k =>
  have h2:=h.at_ (k+1) f2 x2 (by simpa using hf) (by simpa using hx);have hnd:=h.nd;rw[List.flatMap_cons,List.nodup_append] at hnd;have hgm:g∈x.gs:=List.mem_of_getElem? hg;have hx2:x2∈xs:=List.mem_of_getElem? (by simpa using hx);refine⟨⟨b1E h2.vars.row hb (by decide) j _,h2.vars.len,h2.vars.nd,fun i' g' l' hg' hl'=>?_⟩,h2.tasks.by_ fun cs hB=>hB.aside hb (by decide) _ _⟩;obtain⟨a1,a2,a3⟩:=h2.vars.blk i' g' l' hg' hl';refine⟨a1,a2,(heap_setCell_other w ⟨g,j,none⟩ g' _ ?_).trans a3⟩;exact fun he=>hnd.2.2 g hgm g' (List.mem_flatMap.2 ⟨x2,hx2,List.mem_of_getElem? hg'⟩) he.symm
theorem FrmsM.pop(h:FrmsM w0 w (.slice (some ⟨gf,0,none⟩) (fs.length+1) cap) (f::fs) (x::xs)):FrmsM w0 w (.slice (some ⟨gf,0,none⟩) fs.length cap) fs xs:=by
 have hl:(frC fs xs).length=fs.length*5:=b4D (by simpa using h.len);refine⟨?_,by simpa using h.len,fun i f2 x2 hf hx=>h.at_ (i+1) f2 x2 (by simpa using hf) (by simpa using hx),?_,?_⟩
 ·have h1:=b8M h.row (k:=fs.length) (by simp);rw[frC,←hl,List.take_left'  rfl] at h1;exact h1
 ·have:=h.nd;rw[List.flatMap_cons,List.nodup_append] at this;exact this.2.1
 ·have:=h.td;rw[List.map_cons,List.nodup_cons] at this;exact this.2
theorem FrmsM.push{vfr vfr':Value}(h:FrmsM w0 w vfr fs xs)(hd:FrD w0 w' f x)(ho:w'.ownsRow w0.heap.size FRT 5 vfr' (fs.length+1) (frC fs xs++b4J f x))(hk:∀k t cs,(t=b4b∨t=INT∨t=TKT)→Blk w k t cs→Blk w' k t cs)(hn:x.gs.Nodup)(hg:∀g∈x.gs,∀y∈xs,g ∉ y.gs)(ht:∀y∈xs,y.tb≠x.tb) :
  FrmsM w0 w' vfr' (f::fs) (x::xs):=by
 refine⟨ho,by simpa using h.len,fun i f2 x2 hf hx=>?_,?_,?_⟩
 ·cases i with
  | zero =>
   obtain rfl:f=f2:=by simpa using hf
   obtain rfl:x=x2:=by simpa using hx
   exact hd
  | succ i=>exact(h.at_ i f2 x2 (by simpa using hf) (by simpa using hx)).by_ hk
 ·rw[List.flatMap_cons,List.nodup_append];refine⟨hn,h.nd,fun a ha b hb he=>?_⟩;obtain⟨y,hy,hby⟩:=List.mem_flatMap.1 hb;exact hg a ha y hy (he▸hby)
 ·rw[List.map_cons,List.nodup_cons];refine⟨fun hm=>?_,h.td⟩;obtain⟨y,hy,hye⟩:=List.mem_map.1 hm;exact ht y hy hye
theorem FrmsM.gs_lt{vfr:Value}(h:FrmsM w0 w vfr fs xs):∀y∈xs,∀g∈y.gs,g<w.heap.size:=fun y hy g hg=>by
 obtain⟨i,hi⟩:=List.mem_iff_getElem?.1 hy;have hlt:i<fs.length:=by rw[←h.len];exact(List.getElem?_eq_some_iff.1 hi).1
 have hD:=h.at_ i _ y (List.getElem?_eq_getElem hlt) hi;obtain⟨k,hk⟩:=List.mem_iff_getElem?.1 hg;have hk2:k<(fs[i]).vars.length:=by rw[←hD.vars.len];exact(List.getElem?_eq_some_iff.1 hk).1
 exact(hD.vars.blk k g _ hk (List.getElem?_eq_getElem hk2)).2.2.lt
theorem FrmsM.tb_lt{vfr:Value}(h:FrmsM w0 w vfr fs xs):∀y∈xs,y.tb<w.heap.size:=fun y hy=>by
 obtain⟨i,hi⟩:=List.mem_iff_getElem?.1 hy;have hlt:i<fs.length:=by rw[←h.len];exact(List.getElem?_eq_some_iff.1 hi).1
 have hD:=h.at_ i _ y (List.getElem?_eq_getElem hlt) hi;obtain⟨⟨cells,ho,-⟩,hb⟩:=hD.tasks;exact(ho.lt _ hb).2
end
theorem sB:(∀a b:Bool,((a || b)=true)=(a=true∨b=true))∧(∀a b:Bool,((a && b)=true)=(a=true∧b=true))∧(∀a:Bool,((!a)=true)=(a=false))∧(∀a b:Bool,((a || b)=false)=(a=false∧b=false))∧(∀a b:Bool,((a && b)=false)=(a=false∨b=false))∧(∀a:Bool,((!a)=false)=(a=true)) ∧
  (∀(p:Prop) [Decidable p],(decide p=true)=p)∧(∀(p:Prop) [Decidable p],(decide p=false)=¬p)∧(∀a b:Int,((a==b)=true)=(a=b))∧(∀a b:Int,((a != b)=true)=¬a=b)∧(∀a b:Int,((a==b)=false)=¬a=b)∧(∀a b:Int,((a != b)=false)=(a=b)):=by simp
def lk(n:Nat):List (Nat×Value)→Option Value
 | []=>none
 | (m,v)::l=>cond (Nat.beq m n) (some v) (lk n l)
def AtF(N:Nat)(s:List (Nat×Value))(a:Act):Prop:=a.tmps.size=N∧a.defers=[]∧∀n v,lk n s=some v→a.tmps[n]? = some v
def evl(s:List (Nat×Value)):Operand→Value
 | .tmp t=>(lk t s).getD undef
 | .const v=>v
 | .global g=>.pointer (some ⟨g,0,none⟩)
 | .func f=>.func (.func f) #[] #[]
def knows(s:List (Nat×Value)):Operand→Bool
 | .tmp t=>(lk t s).isSome
 | _=>true
def c4B:Op→Bool
 | .select _ _=>false
 | _=>true
def asB:Value→Option Bool
 | .bool b=>some b
 | _=>none
def b5G(ops:Array Oper)(s:List (Nat×Value))(o:Oper):Option Bool:=
 match o.guard with
 | none=>some true
 | some (j,t)=>match(ops[j]?).bind (·.dst) with
  | none=>some false
  | some d=>match lk d s with
   | none=>none
   | some v=>some (asB v==some t)
def b5h(ops:Array Oper)(s:List (Nat×Value))(o:Oper):Bool:=(b5G ops s o==some true) && (c4B o.op && o.op.operands.all (knows s))
def b1o(N:Nat)(o:Oper):Option Tmp→Bool
 | some d=>(o.dst==some d) && Nat.blt d N
 | none=>o.dst==none
def b3U(d:Option Tmp)(v:Value)(s:List (Nat×Value)):List (Nat×Value):=
 match d with
 | some d=>(d,v)::s
 | none=>s
section
variable {N:Nat}{s:List (Nat×Value)}{a:Act}{o:Oper}{ops:Array Oper}
theorem AtF.put(h:AtF N s a){d:Option Tmp}(hd:b1o N o d=true)(v:Value):AtF N (b3U d v s) (a.put d v):=by
 cases d with
 | none=>exact h
 | some d =>
  obtain⟨h1,h2,h3⟩:=h
  have hd:Nat.blt d N=true:=by
   unfold b1o at hd;rw[Bool.and_eq_true] at hd;exact hd.2
  have hdN:d<N:=by
   unfold Nat.blt at hd;exact Nat.le_of_ble_eq_true hd
  refine⟨by simp[Act.put,h1],h2,fun n u hn=>?_⟩;unfold b3U at hn;rw[lk] at hn;show(a.tmps.setIfInBounds d v)[n]? = some u;rw[Array.getElem?_setIfInBounds];cases hb:Nat.beq d n with
  | true =>
   rw[hb] at hn;have:=Nat.eq_of_beq_eq_true hb;subst this;rw[if_pos rfl,if_pos (by rw[h1];exact hdN)];exact hn
  | false =>
   rw[hb] at hn;rw[if_neg (Nat.ne_of_beq_eq_false hb)];exact h3 n u hn
theorem AtF.eval(h:AtF N s a){x:Operand}(hx:knows s x=true):a.eval x=evl s x:=by
 cases x with
 | tmp t =>
  dsimp only[knows] at hx;cases ht:lk t s with
  | none=>rw[ht] at hx;cases hx
  | some v =>
   show a.tmps.getD t undef=(lk t s).getD undef;rw[ht,Array.getD_eq_getD_getElem?,h.2.2 t v ht]
 | const v=>rfl
 | global g=>rfl
 | func f=>rfl
theorem b1N{N:Nat}{d:Option Tmp}(h:b1o N o d=true):o.dst=d:=by
 cases d with
 | none=>unfold b1o at h;simpa using h
 | some d =>
  unfold b1o at h;rw[Bool.and_eq_true] at h
  simpa using h.1
theorem AtF.exec(h:AtF N s a)(hk:b5h ops s o=true):execOp a.eval o=execOp (evl s) o:=by
 unfold b5h at hk;rw[Bool.and_eq_true,Bool.and_eq_true] at hk;refine execOp_congr o (fun cs b hb=>?_) fun x hx=>h.eval ?_
 ·rw[hb] at hk;exact Bool.noConfusion hk.2.1
 ·exact Array.all_eq_true'.1 hk.2.2 x hx
theorem AtF.want(h:AtF N s a){b:Bool}(hw:b5G ops s o=some b):Region.wanted o (yielded ops a.tmps)=b:=by
 unfold b5G at hw;unfold Region.wanted;cases hg:o.guard with
 | none=>rw[hg] at hw;exact Option.some.inj hw
 | some jt =>
  obtain⟨j,t⟩:=jt;rw[hg] at hw;dsimp only at hw ⊢;unfold yielded;cases hd:(ops[j]?).bind (·.dst) with
  | none=>rw[hd] at hw;exact Option.some.inj hw
  | some d =>
   rw[hd] at hw;dsimp only at hw;cases hl:lk d s with
   | none=>rw[hl] at hw;cases hw
   | some v =>
    rw[hl] at hw;rw[Option.bind_some,h.2.2 d v hl];have:=Option.some.inj hw;rw[←this];cases v<;>rfl
theorem AtF.done(h:AtF N s a)(hk:b5h ops s o=true):Region.wanted o (yielded ops a.tmps)=true:=by
 unfold b5h at hk;rw[Bool.and_eq_true] at hk;exact h.want (by simpa using hk.1)
end
structure WA(P:Program)(ops:Array Oper)(Q:Exit→Act→World→Prop)(rest:List Oper)(N:Nat)(s:List (Nat×Value))(w:World):Prop where
 out:∀a,AtF N s a→wpList P ops Q rest a w
structure WS(P:Program)(ops:Array Oper)(Q:Act→Prop)(rest:List Oper)(N:Nat)(s:List (Nat×Value))(w:World):Prop where
 out:∀a,AtF N s a→wpStill P ops w Q rest a
structure CA(P:Program)(c:Code)(Q:Exit→Act→World→Prop)(N:Nat)(s:List (Nat×Value))(w:World):Prop where
 out:∀a,AtF N s a→c.wp P Q a w
structure LA(Q:Exit→Act→World→Prop)(e:Exit)(N:Nat)(s:List (Nat×Value))(w:World):Prop where
 out:∀a,AtF N s a→Q e a w
section
variable {P:Program}{ops:Array Oper}{Q:Exit→Act→World→Prop}{rest:List Oper}{o:Oper}{N:Nat}{s:List (Nat×Value)}{w w':World}
theorem c2L(d:Option Tmp)(v:Value)(hd:b1o N o d=true)(hk:b5h ops s o=true)(hrun:(execOp (evl s) o).run P w=.ok (.value v) w')(h:WA P ops Q rest N (b3U d v s) w'):WA P ops Q (o::rest) N s w:=
 ⟨fun a ha=>wpList_step fun K hK=>by
  rw[if_pos (ha.done hk)];unfold Oper.wp;rw[ha.exec hk,hrun,Oper.upon_value];exact hK _ _ (by rw[b1N hd];exact h.out _ (ha.put hd v))⟩
theorem c4e(d:Option Tmp)(v:Value)(hd:b1o N o d=true)(hk:b5h ops s o=true)(hrun:(execOp (evl s) o).run P w=.ok (.value v) w)(h:WA P ops Q rest N (b3U d v s) w):WA P ops Q (o::rest) N s w:=c2L d v hd hk hrun h
theorem b0F(d:Option Tmp)(v:Value)(hrun:(execOp (evl s) o).run P w=.ok (.value v) w)(h:WA P ops Q rest N (b3U d v s) w)(hd:b1o N o d=true:=by kernel_rfl)(hk:b5h ops s o=true:=by kernel_rfl):WA P ops Q (o::rest) N s w:=c4e d v hd hk hrun h
theorem b5F(d:Option Tmp)(hd:b1o N o d=true)(hk:b5h ops s o=true)(hrun:(execOp (evl s) o).run P w=.ok .skip w')(h:WA P ops Q rest N (b3U d undef s) w'):WA P ops Q (o::rest) N s w:=
 ⟨fun a ha=>wpList_step fun K hK=>by
  rw[if_pos (ha.done hk)];unfold Oper.wp;rw[ha.exec hk,hrun,Oper.upon_skip];exact hK _ _ (by rw[b1N hd];exact h.out _ (ha.put hd undef))⟩
theorem b8b(d:Option Tmp)(hd:b1o N o d=true)(hw:b5G ops s o=some false)(h:WA P ops Q rest N (b3U d undef s) w):WA P ops Q (o::rest) N s w:=
 ⟨fun a ha=>wpList_step fun K hK=>by
  rw[if_neg (by rw[ha.want hw];decide)];exact hK _ _ (by rw[b1N hd];exact h.out _ (ha.put hd undef))⟩
theorem b0J(d:Option Tmp)(h:WA P ops Q rest N (b3U d undef s) w)(hd:b1o N o d=true:=by kernel_rfl)(hw:b5G ops s o=some false:=by kernel_rfl):WA P ops Q (o::rest) N s w:=b8b d hd hw h
theorem b8a(d:Option Tmp)(hd:b1o N o d=true)(hk:b5h ops s o=true)(f:FuncId)(args:Array Value)(hrun:(execOp (evl s) o).run P w=.ok (.enter f args) w){R:Ending→World→Prop}(hc:Calls P f args w R)
  (h:∀e w',R e w'→∃v,e=.returned v∧WA P ops Q rest N (b3U d v s) w'):WA P ops Q (o::rest) N s w:=
 ⟨fun a ha=>c0W d (b1N hd) (ha.done hk) f args (by rw[ha.exec hk];exact hrun) hc fun e w' hR=>by
  obtain⟨v,he,hW⟩:=h e w' hR;exact⟨v,he,hW.out _ (ha.put hd v)⟩⟩
theorem b0a(d:Option Tmp)(f:FuncId)(args:Array Value){R:Ending→World→Prop}(hc:Calls P f args w R)(h:∀e w',R e w'→∃v,e=.returned v∧WA P ops Q rest N (b3U d v s) w')(hd:b1o N o d=true:=by kernel_rfl)(hk:b5h ops s o=true:=by kernel_rfl)(hrun:(execOp (evl s) o).run P w=.ok (.enter f args) w:=by kernel_rfl):WA P ops Q (o::rest) N s w:=b8a d hd hk f args hrun hc h
theorem b0H(h:LA Q .normal N s w):WA P ops Q [] N s w:=⟨h.out⟩
def c2b(P:Program)(ops:Array Oper)(N:Nat):Nat→List Oper→List (Nat×Value)→World→Option (List (Nat×Value)×World)
 | 0,_,s,w=>some (s,w)
 | _+1,[],_,_=>none
 | n+1,o::rest,s,w =>
  cond (b1o N o o.dst)
   (match b5G ops s o with
   | none=>none
   | some false=>c2b P ops N n rest (b3U o.dst undef s) w
   | some true=>cond (b5h ops s o)
    (match(execOp (evl s) o).run P w with
    | .ok (.value v) w'=>c2b P ops N n rest (b3U o.dst v s) w'
    | _=>none) none) none
def b7s(P:Program)(ops:Array Oper)(N:Nat)(s:List (Nat×Value))(o:Oper)(d:Option Tmp)(w:World):Option (Value×World):=
 cond (b1o N o d && b5h ops s o) (match(execOp (evl s) o).run P w with
  | .ok (.value v) w'=>some (v,w')
  | _=>none) none
theorem b3u{d:Option Tmp}{v:Value}(h:b7s P ops N s o d w=some (v,w')):b1o N o d=true∧b5h ops s o=true∧(execOp (evl s) o).run P w=.ok (.value v) w':=by
 unfold b7s at h;cases hb:(b1o N o d && b5h ops s o) with
 | false=>rw[hb] at h;cases h
 | true =>
  rw[hb,cond_true] at h;rw[Bool.and_eq_true] at hb;split at h
  ·rename_i v2 w2 hrun
   injection h with h;injection h with h1 h2;subst h1 h2;exact⟨hb.1,hb.2,hrun⟩
  ·cases h
theorem c4m(d:Option Tmp)(v:Value)(w':World)(h:b7s P ops N s o d w=some (v,w'))(h2:WA P ops Q rest N (b3U d v s) w'):WA P ops Q (o::rest) N s w:=
 c2L d v (b3u h).1 (b3u h).2.1 (b3u h).2.2 h2
theorem b1n(d:Option Tmp)(v:Value)(w':World)(h2:WA P ops Q rest N (b3U d v s) w')(h:b7s P ops N s o d w=some (v,w'):=by kernel_rfl):WA P ops Q (o::rest) N s w:=c4m d v w' h h2
theorem wa_q(d:Option Tmp)(v:Value)(h:b7s P ops N s o d w=some (v,w))(h2:WA P ops Q rest N (b3U d v s) w):WA P ops Q (o::rest) N s w:=c4m d v w h h2
theorem b0B(d:Option Tmp)(v:Value)(h2:WA P ops Q rest N (b3U d v s) w)(h:b7s P ops N s o d w=some (v,w):=by kernel_rfl):WA P ops Q (o::rest) N s w:=wa_q d v h h2
def b6U(s:List (Nat×Value))(o:Oper):Bool:=c4B o.op && o.op.operands.all (knows s)
theorem b8L{B:Bool}(hB:B=true)(hw:b5G ops s o=some B)(hk:b6U s o=true):b5h ops s o=true:=by
 unfold b5h;rw[hw,hB];unfold b6U at hk;rw[hk];rfl
theorem c4f(d:Option Tmp)(B:Bool)(v:Value)(hd:b1o N o d=true)(hk:b6U s o=true)(hw:b5G ops s o=some B)(hrun:B=true→(execOp (evl s) o).run P w=.ok (.value v) w)(h:WA P ops Q rest N (b3U d (cond B v undef) s) w):WA P ops Q (o::rest) N s w:=by
 cases B with
 | true=>exact c2L d v hd (b8L rfl hw hk) (hrun rfl) h
 | false=>exact b8b d hd hw h
theorem b0L(d:Option Tmp)(B:Bool)(v:Value)(hw:b5G ops s o=some B)(hrun:B=true→(execOp (evl s) o).run P w=.ok (.value v) w)(h:WA P ops Q rest N (b3U d (cond B v undef) s) w)(hd:b1o N o d=true:=by kernel_rfl)(hk:b6U s o=true:=by kernel_rfl):WA P ops Q (o::rest) N s w:=c4f d B v hd hk hw hrun h
theorem b3j(d:Option Tmp)(B:Bool)(v:Value)(hd:b1o N o d=true)(hk:b6U s o=true)(hw:b5G ops s o=some B)(f:FuncId)(args:Array Value)(hrun:B=true→(execOp (evl s) o).run P w=.ok (.enter f args) w)(hc:Calls P f args w fun r w'=>r=.returned v∧Bel w w')
  (h:∀w',Bel w w'→WA P ops Q rest N (b3U d (cond B v undef) s) w'):WA P ops Q (o::rest) N s w:=by
 cases B with
 | true=>exact b8a d hd (b8L rfl hw hk) f args (hrun rfl) hc fun e w' hR=>⟨v,hR.1,h w' hR.2⟩
 | false=>exact b8b d hd hw (h w (Bel.rfl_ w))
theorem c4g(d:Option Tmp)(v:Value)(hd:b1o N o d=true)(hk:b5h ops s o=true)(f:FuncId)(args:Array Value)(hrun:(execOp (evl s) o).run P w=.ok (.enter f args) w)(hc:Calls P f args w fun r w'=>r=.returned v∧Bel w w')
  (h:∀w',Bel w w'→WA P ops Q rest N (b3U d v s) w'):WA P ops Q (o::rest) N s w:=
 b8a d hd hk f args hrun hc fun _e w' hR=>⟨v,hR.1,h w' hR.2⟩
theorem b1c(d:Option Tmp)(v:Value)(f:FuncId)(args:Array Value)(hc:Calls P f args w fun r w'=>r=.returned v∧Bel w w')(h:∀w',Bel w w'→WA P ops Q rest N (b3U d v s) w')(hd:b1o N o d=true:=by kernel_rfl)(hk:b5h ops s o=true:=by kernel_rfl)(hrun:(execOp (evl s) o).run P w=.ok (.enter f args) w:=by kernel_rfl):WA P ops Q (o::rest) N s w:=c4g d v hd hk f args hrun hc h
theorem c3f{Q:Act→Prop}(d:Option Tmp)(v:Value)(hd:b1o N o d=true)(hk:b5h ops s o=true)(hrun:(execOp (evl s) o).run P w=.ok (.value v) w)(h:WS P ops Q rest N (b3U d v s) w):WS P ops Q (o::rest) N s w:=
 ⟨fun a ha=>wpStill_step fun K hK=>by
  rw[if_pos (ha.done hk)];unfold Oper.still;rw[ha.exec hk,hrun,Oper.stillUpon_value];exact hK _ (by rw[b1N hd];exact h.out _ (ha.put hd v))⟩
theorem b0j{Q:Act→Prop}(d:Option Tmp)(v:Value)(hrun:(execOp (evl s) o).run P w=.ok (.value v) w)(h:WS P ops Q rest N (b3U d v s) w)(hd:b1o N o d=true:=by kernel_rfl)(hk:b5h ops s o=true:=by kernel_rfl):WS P ops Q (o::rest) N s w:=c3f d v hd hk hrun h
theorem b2g{Q:Act→Prop}(d:Option Tmp)(hd:b1o N o d=true)(hw:b5G ops s o=some false)(h:WS P ops Q rest N (b3U d undef s) w):WS P ops Q (o::rest) N s w:=
 ⟨fun a ha=>wpStill_step fun K hK=>by
  rw[if_neg (by rw[ha.want hw];decide)];exact hK _ (by rw[b1N hd];exact h.out _ (ha.put hd undef))⟩
theorem ws_q{Q:Act→Prop}(d:Option Tmp)(v:Value)(h:b7s P ops N s o d w=some (v,w))(h2:WS P ops Q rest N (b3U d v s) w):WS P ops Q (o::rest) N s w:=
 c3f d v (b3u h).1 (b3u h).2.1 (b3u h).2.2 h2
theorem b0m{Q:Act→Prop}(d:Option Tmp)(v:Value)(h2:WS P ops Q rest N (b3U d v s) w)(h:b7s P ops N s o d w=some (v,w):=by kernel_rfl):WS P ops Q (o::rest) N s w:=ws_q d v h h2
theorem b7x{Q:Act→Prop}(d:Option Tmp)(B:Bool)(v:Value)(hd:b1o N o d=true)(hk:b6U s o=true)(hw:b5G ops s o=some B)(hrun:B=true→(execOp (evl s) o).run P w=.ok (.value v) w)(h:WS P ops Q rest N (b3U d (cond B v undef) s) w):WS P ops Q (o::rest) N s w:=by
 cases B with
 | true=>exact c3f d v hd (b8L rfl hw hk) (hrun rfl) h
 | false=>exact b2g d hd hw h
theorem b5w(h:WA P ops Q rest N s w):WS P ops (fun a=>wpList P ops Q rest a w) [] N s w:=⟨h.out⟩
theorem b5v(h:LA Q .normal N s w):WS P ops (fun a=>Q .normal a w) [] N s w:=⟨h.out⟩
end
section
variable {P:Program}{Q:Exit→Act→World→Prop}{N:Nat}{s:List (Nat×Value)}{w:World}{x y c:Code}{K:Act→World→Prop}
theorem b0D{id:Nat}{l:List Oper}(h:WA P l.toArray Q l N s w):CA P (.region id l.toArray false) Q N s w:=⟨fun a ha=>wp_region_lit (h.out a ha)⟩
theorem b3K{id:Nat}{l:List Oper}(hm:P.follows .mixedOrders=true)(hB:Region.lexB .any l.toArray=true)(h:WS P l.toArray (fun a=>Q .normal a w.drew) l N s w.drew):CA P (.region id l.toArray true) Q N s w:=
 ⟨fun a ha=>wp_region_still_lit hm hB (h.out a ha)⟩
theorem b5P{id:Nat}{l:List Oper}(n:Nat)(hm:P.follows .mixedOrders=true)(hB:Region.lexTailB .any l.toArray n=true)(h:WS P l.toArray (fun a=>wpList P l.toArray Q (l.drop n) a w.drew) (l.take n) N s w.drew):CA P (.region id l.toArray true) Q N s w:=
 ⟨fun a ha=>wp_region_still_tail n hm hB (h.out a ha)⟩
theorem b0G(h:CA P x (Exit.then (y.wp P Q) Q) N s w):CA P (.seq x y) Q N s w:=⟨fun a ha=>wp_seq (h.out a ha)⟩
theorem b0e{id:Nat}(h:CA P c (Exit.inBlock id Q) N s w):CA P (.block id c) Q N s w:=⟨fun a ha=>wp_block (h.out a ha)⟩
theorem c2h{t:Operand}(hk:knows s t=true)(hv:evl s t=.bool true)(h:CA P x Q N s w):CA P (.cond t x y) Q N s w:=⟨fun a ha=>wp_cond_true (by rw[ha.eval hk,hv]) (h.out a ha)⟩
theorem b0P{t:Operand}(h:CA P x Q N s w)(hk:knows s t=true:=by kernel_rfl)(hv:evl s t=.bool true:=by kernel_rfl):CA P (.cond t x y) Q N s w:=c2h hk hv h
theorem c1S{t:Operand}(hk:knows s t=true)(hv:evl s t=.bool false)(h:CA P y Q N s w):CA P (.cond t x y) Q N s w:=⟨fun a ha=>wp_cond_false (by rw[ha.eval hk,hv]) (h.out a ha)⟩
theorem b0K{t:Operand}(h:CA P y Q N s w)(hk:knows s t=true:=by kernel_rfl)(hv:evl s t=.bool false:=by kernel_rfl):CA P (.cond t x y) Q N s w:=c1S hk hv h
theorem b0X(h:LA Q .normal N s w):CA P .skip Q N s w:=⟨fun a ha=>wp_skip (h.out a ha)⟩
theorem b1d{id:Nat}(h:LA Q (.exit id) N s w):CA P (.exit id) Q N s w:=⟨fun a ha=>wp_exit (h.out a ha)⟩
theorem b0x(h:LA Q .ret N s w):CA P .ret Q N s w:=⟨fun a ha=>wp_ret (h.out a ha)⟩
theorem b0E(h:CA P y Q N s w):LA (Exit.then (y.wp P Q) Q) .normal N s w:=⟨fun a ha=>h.out a ha⟩
theorem b0T{id:Nat}(h:LA Q (.exit id) N s w):LA (Exit.then K Q) (.exit id) N s w:=⟨fun a ha=>h.out a ha⟩
theorem b0N(h:LA Q .ret N s w):LA (Exit.then K Q) .ret N s w:=⟨fun a ha=>h.out a ha⟩
theorem b0Q{id:Nat}(h:LA Q .normal N s w):LA (Exit.inBlock id Q) .normal N s w:=⟨fun a ha=>h.out a ha⟩
theorem b0Y{id:Nat}(h:LA Q .ret N s w):LA (Exit.inBlock id Q) .ret N s w:=⟨fun a ha=>h.out a ha⟩
theorem b0h{id:Nat}(h:LA Q .normal N s w):LA (Exit.inBlock id Q) (.exit id) N s w:=⟨fun a ha=>by unfold Exit.inBlock;dsimp only;rw[if_pos rfl];exact h.out a ha⟩
def b7e(s:List (Nat×Value)):List Nat→Option (List (Nat×Value))
 | []=>some []
 | n::ns=>match lk n s,b7e s ns with
  | some v,some l=>some ((n,v)::l)
  | _,_=>none
theorem b8p{s:List (Nat×Value)}:∀{ns:List Nat} {s':List (Nat×Value)},b7e s ns=some s'→∀n v,lk n s'=some v→lk n s=some v
 | [],s',h,n,v,hn=>by
  unfold b7e at h;injection h with h;subst h;cases hn
 | m::ns,s',h,n,v,hn=>by
  unfold b7e at h;split at h
  ·rename_i u l h1 h2
   injection h with h;subst h;rw[lk] at hn;cases hb:Nat.beq m n with
   | true =>
    rw[hb] at hn;have:=Nat.eq_of_beq_eq_true hb;subst this;rw[h1];exact hn
   | false =>
    rw[hb] at hn;exact b8p h2 n v hn
  ·cases h
theorem AtF.sub{a:Act}{s':List (Nat×Value)}{ns:List Nat}(h:AtF N s a)(hk:b7e s ns=some s'):AtF N s' a:=⟨h.1,h.2.1,fun n v hn=>h.2.2 n v (b8p hk n v hn)⟩
theorem b1y{α:Type}(R:α→World→Prop)(L:α→List (Nat×Value))(hx:CA P x (Exit.then (fun a w'=>∃i,R i w'∧AtF N (L i) a) Q) N s w)(hy:∀i w',R i w'→CA P y Q N (L i) w'):CA P (.seq x y) Q N s w:=
 b0G ⟨fun a ha=>Code.wp_mono (fun e a' w' hq=>by
  cases e with
  | normal =>
   obtain⟨i,hR,hA⟩:=hq;exact(hy i w' hR).out a' hA
  | exit id=>exact hq
  | goto l=>exact hq
  | ret=>exact hq
  | panic ch=>exact hq
  | outgrown=>exact hq) (hx.out a ha)⟩
theorem b1Q{α:Type}{R:α→World→Prop}{L:α→List (Nat×Value)}(i:α)(ns:List Nat)(hk:b7e s ns=some (L i))(hR:R i w):LA (Exit.then (fun a w'=>∃i,R i w'∧AtF N (L i) a) Q) .normal N s w:=⟨fun _a ha=>⟨i,hR,ha.sub hk⟩⟩
theorem b0V{α:Type}{R:α→World→Prop}{L:α→List (Nat×Value)}(i:α)(ns:List Nat)(hR:R i w)(hk:b7e s ns=some (L i):=by kernel_rfl):LA (Exit.then (fun a w'=>∃i,R i w'∧AtF N (L i) a) Q) .normal N s w:=b1Q i ns hk hR
theorem b1e{α:Type}(I:α→World→Prop)(L:α→List (Nat×Value))(μ:α→Nat)(i0:α)(ns:List Nat)(hk:b7e s ns=some (L i0))(h0:I i0 w)
  (hround:∀i w,I i w→CA P c (Exit.then (fun a w'=>∃i',(I i' w'∧μ i' < μ i)∧AtF N (L i') a) Q) N (L i) w):CA P (.loop c) Q N s w:=
 ⟨fun a ha=>by
  refine wp_loop_rounds (μ i0+1) ?_
  have key:∀(n:Nat) (i:α) (a:Act) (w:World),I i w→μ i<n→AtF N (L i) a→Code.rounds P c Q n a w:=by
   intro n;induction n with
   | zero=>intro i a w _ h;omega
   | succ n ih =>
    intro i a w hI hm hA;rw[rounds_succ];refine Code.wp_mono (fun e a' w' hq=>?_) ((hround i w hI).out a hA);cases e with
    | normal =>
     obtain⟨i',⟨hI',hlt⟩,hA'⟩:=hq;exact ih i' a' w' hI' (by omega) hA'
    | exit id=>exact hq
    | goto l=>exact hq
    | ret=>exact hq
    | panic ch=>exact hq
    | outgrown=>exact hq
  exact key _ i0 a w h0 (Nat.lt_succ_self _) (ha.sub hk)⟩
def c4O:List Value→Nat→List (Nat×Value)
 | [],_=>[]
 | v::vs,i=>(i,v)::c4O vs (i+1)
theorem c0A:∀(vs:List Value) (i n:Nat) (v:Value),lk n (c4O vs i)=some v→i≤n∧vs[n-i]? = some v
 | [],_,_,_,h=>by cases h
 | u::vs,i,n,v,h=>by
  rw[c4O,lk] at h;cases hb:Nat.beq i n with
  | true =>
   rw[hb] at h;have:=Nat.eq_of_beq_eq_true hb;subst this;exact⟨Nat.le_refl _,by rw[Nat.sub_self];exact h⟩
  | false =>
   rw[hb] at h;obtain⟨h1,h2⟩:=c0A vs (i+1) n v h;refine⟨by omega,?_⟩;rw[show n-i=n-(i+1)+1 by omega];exact h2
theorem b1H{f:FuncId}{fn:Func}{args:List Value}{R:Ending→World→Prop}(hf:P.funcs[f]? = some fn)(hb:fn.body=some c)(hN:fn.ntmps=N)(hs:Nat.ble args.length N=true)(h:CA P c (bodyPost P fn R) N (c4O args 0) w):Calls P f args.toArray w R:=by
 refine calls_of_wp hf hb (h.out _ ⟨?_,rfl,fun n v hn=>?_⟩)
 ·have:=Nat.le_of_ble_eq_true hs;simp[hN];omega
 ·obtain⟨-,h2⟩:=c0A _ _ _ _ hn;have hlt:=(List.getElem?_eq_some_iff.1 h2).1;show(args.toArray++_)[n]? = some v;rw[Array.getElem?_append_left (by simpa using hlt)]
  simpa using h2
theorem b2e{fn:Func}{R:Ending→World→Prop}(hr:fn.results=#[])(h:R (.returned (.tuple #[])) w):LA (bodyPost P fn R) .ret N s w:=
 ⟨fun a ha=>⟨ha.2.1,_,by simp[results,hr,Sem.run,pure],h⟩⟩
theorem b1z{fn:Func}{R:Ending→World→Prop}(hr:fn.results=#[])(h:R (.returned (.tuple #[])) w):LA (bodyPost P fn R) .normal N s w:=
 ⟨fun a ha=>⟨ha.2.1,_,by simp[results,hr,Sem.run,pure],h⟩⟩
theorem AtF.getD{a:Act}(h:AtF N s a){n:Nat}{v:Value}(hn:lk n s=some v):a.tmps.getD n undef=v:=by
 rw[Array.getD_eq_getD_getElem?,h.2.2 n v hn];rfl
theorem c2q{fn:Func}{R:Ending→World→Prop}(t:Nat)(v:Value)(hr:fn.results=#[.tmp t])(hv:lk t s=some v)(h:R (.returned v) w):LA (bodyPost P fn R) .ret N s w:=
 ⟨fun a ha=>⟨ha.2.1,v,by simp[results,hr,Sem.run,pure,ha.2.2 t v hv],h⟩⟩
theorem b0d{fn:Func}{R:Ending→World→Prop}(t:Nat)(v:Value)(h:R (.returned v) w)(hr:fn.results=#[.tmp t]:=by rfl)(hv:lk t s=some v:=by kernel_rfl):LA (bodyPost P fn R) .ret N s w:=c2q t v hr hv h
theorem c2r{fn:Func}{R:Ending→World→Prop}(t u:Nat)(v v2:Value)(hr:fn.results=#[.tmp t,.tmp u])(hv:lk t s=some v)(hv2:lk u s=some v2)(h:R (.returned (.tuple #[v,v2])) w):LA (bodyPost P fn R) .ret N s w:=
 ⟨fun a ha=>⟨ha.2.1,.tuple #[v,v2],by simp[results,hr,Sem.run,pure,ha.2.2 t v hv,ha.2.2 u v2 hv2],h⟩⟩
end
end Go.Proofs.Ytgkpplbomciehaa
