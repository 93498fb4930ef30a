/- Steps of regions, and copies of structs, as laws: nothing here speaks of one function. Each lemma states its own conditions. -/
import Derived.Test.YtgkpplbomciehaaStt04
import Derived.BigQuiet
import Derived.Deep.DeepCutAuto
import Derived.Deep.QuietTactic
import Derived.Deep.RegionLawGrows
import Derived.Deep.MidRow
import Derived.Deep.WholeRow
import Derived.Great.Walk
import Derived.Outline
import Derived.WalkLawsBesides
import Derived.WalkSpells
import Derived.Laws.StructEq
namespace Go.Proofs.Ytgkpplbomciehaa
open Go.RowKit
theorem b3s{P:Program}{ρ:Operand→Value}{o:Oper}{w:World}(ty:TypeId)(ho:o.op=.alloc ty){i:TypeInfo}(hi:P.info? ty=some i){z:Value}(hz:i.zero=some z) :
  (execOp ρ o).run P w=.ok (.value (.pointer (some ⟨w.heap.size,0,none⟩))) (w.alloc (.cells z.cells ty)):=by
 unfold execOp;simp[ho,Instr.alloc,zeroValue,typeInfo,hi,hz,newVar,newRow,Sem.run_bind]
theorem b2p{P:Program}{ops:Array Oper}{rest:List Oper}{o1 o2 o3:Oper}{a:Act}{w:World}{Q:Exit→Act→World→Prop}(ty:TypeId)(x y z:Operand)(hg1:o1.guard=none)(hg2:o2.guard=none)(hg3:o3.guard=none)
  (ho1:o1.op=.load ty x) (ho2:o2.op=.alloc ty) (ho3:o3.op=.store ty y z) (b o:Nat) (hx:a.eval x=.pointer (some ⟨b,o,none⟩)) (cs:List Value) (hc:b1D w b o cs)
  {t:TypeId} {size bytes:Nat} (E:Elem P t ty size bytes) (d:TypeDesc) (hu:P.underlying ty=some d) (hd:d.isRow=true) (hl:cs.length=size) (hone:∀u∈cs,u.oneCell'=true)
  (hy:((a.put o1.dst (.agg cs.toArray)).put o2.dst (.pointer (some ⟨w.heap.size,0,none⟩))).eval y=.pointer (some ⟨w.heap.size,0,none⟩))
  (hz:((a.put o1.dst (.agg cs.toArray)).put o2.dst (.pointer (some ⟨w.heap.size,0,none⟩))).eval z=.agg cs.toArray)
  (h:wpList P ops Q rest (((a.put o1.dst (.agg cs.toArray)).put o2.dst (.pointer (some ⟨w.heap.size,0,none⟩))).put o3.dst undef) (w.alloc (.cells cs.toArray ty))):wpList P ops Q (o1::o2::o3::rest) a w:=by
 obtain⟨i,zv,hi,hz0,hz1,hz2,hz3⟩:=E.inf;refine wpList_load_mid hg1 ty x ho1 b o hx cs d hc hu hd (by rw[hi,Option.map_some,hz1,hl]) ?_;refine Great.wpList_runTo hg2 o2.dst rfl _ _ (b3s ty ho2 hi hz0) ?_;refine wpList_store_row hg3 ty y z ho3 w.heap.size cs.toArray hy hz ty zv.cells (heap_alloc_last _ _) (by rw[hi,Option.map_some,hz1];simp[hl]) (by simp[hz3,hl]) (all_oneCell_toArray hone) ?_;rw[World.setRow_alloc_new];exact h
theorem b6b{o:Option TypeDesc}(h:o.map (·.isRow)=some true):∃d,o=some d∧d.isRow=true:=by
 cases o with
 | none=>cases h
 | some d=>exact⟨d,rfl,by simpa using h⟩
theorem Sl.lies{α:Type}{r:Rep α}{w:World}{A:Option Addr}{n c:Nat}{xs:List α}(h:Sl r w (.slice A n c) xs)(hp:0<xs.length):∃b o,A=some ⟨b,o,none⟩∧∀k x,xs[k]? = some x→r.At w b (o+k*r.size) x:=by
 obtain⟨A',c',hv,-,-,h4⟩:=h;injection hv with hv;subst hv;exact h4 hp
theorem Bel.row{w W:World}(h:Bel w W){G:Nat}(hG:w.heap.size≤G)(cs:Array Value):Bel w (W.setRow G cs):=
 ⟨h.os,h.tape,h.output,by rw[setRow_size];exact h.size,fun k hk=>(setRow_other W G k cs (by omega)).trans (h.block k hk)⟩
theorem Blk.row_same{W:World}{G:Nat}{t:TypeId}{old:Array Value}(h:Blk W G t old)(cs:Array Value):Blk (W.setRow G cs) G t cs:=setRow_heap W G old cs t (0,0) h
theorem Blk.row_other{W:World}{G H:Nat}{t:TypeId}{old:Array Value}(h:Blk W G t old)(hn:G≠H)(cs:Array Value):Blk (W.setRow H cs) G t old:=(setRow_other W H G cs hn).trans h
section
variable {P:Program}{ops:Array Oper}{o:Oper}{a:Act}{w:World}{K:Act→World→Prop}{Q:Exit→Act→World→Prop}{E:Prop}
theorem c1C(d:Option Tmp)(hd:o.dst=d)(ty:TypeId)(hg:o.guard=none)(ho:o.op=.alloc ty){t:TypeId}{size bytes:Nat}(El:Elem P t ty size bytes)
  (h:∀z:Array Value,z.size=size→K (a.put d (.pointer (some ⟨w.heap.size,0,none⟩))) (w.alloc (.cells z ty))):if Region.wanted o (yielded ops a.tmps)=true then Oper.wp P o a w K Q else E:=by
 subst hd;obtain⟨i,zv,hi,hz0,hz1,hz2,hz3⟩:=El.inf;have hw:Region.wanted o (yielded ops a.tmps)=true:=by simp[Region.wanted,hg]
 rw[if_pos hw];unfold Oper.wp;rw[b3s ty ho hi hz0];exact h _ hz3
theorem c1D(d:Option Tmp)(hd:o.dst=d)(ty:TypeId)(x y:Operand)(hg:o.guard=none)(ho:o.op=.store ty x y){t:TypeId}{size bytes:Nat}(El:Elem P t ty size bytes)(g:Nat)(cs:List Value)(hx:a.eval x=.pointer (some ⟨g,0,none⟩))(hy:a.eval y=.agg cs.toArray)
  {old:Array Value} (hb:Blk w g ty old) (hold:old.size=size) (hl:cs.length=size) (hone:∀u∈cs,u.oneCell'=true)
  (h:K (a.put d undef) (w.setRow g cs.toArray)):if Region.wanted o (yielded ops a.tmps)=true then Oper.wp P o a w K Q else E:=by
 subst hd;obtain⟨i,zv,hi,hz0,hz1,hz2,hz3⟩:=El.inf;have hw:Region.wanted o (yielded ops a.tmps)=true:=by simp[Region.wanted,hg]
 rw[if_pos hw];exact wp_store_row ty x y ho g cs.toArray hx hy ty old hb (by rw[hi,Option.map_some,hz1];simp[hl]) (by simp[hold,hl]) (all_oneCell_toArray hone) h
end
section
variable {P:Program}{md:Region.Mode}{ops:Array Oper}{Q:Exit→Act→World→Prop}{S:World→Prop}{fuel:Nat}{listed:Array Bool}{a:Act}{w:World}{i j:Nat}
def b3T(P:Program)(md:Region.Mode)(ops:Array Oper)(Q:Exit→Act→World→Prop)(S:World→Prop)(fuel:Nat)(listed:Array Bool)(a:Act)(w:World)(i:Nat):Prop:=
 wpOp P ops Q i (fun a' w'=>S w'∧wpAnyH P md ops Q S fuel (listed.setIfInBounds i true) a' w') a w
theorem b2G(hr:Region.ready md ops listed=[i])(h:b3T P md ops Q S fuel listed a w i):wpAnyH P md ops Q S (fuel+1) listed a w:=
 wpAnyH_all hr (by simp) fun k hk=>by
  obtain rfl:k=i:=by simpa using hk
  exact h
theorem b9B(hr:Region.ready md ops listed=[i,j])(h:b3T P md ops Q S fuel listed a w i)(h':b3T P md ops Q S fuel listed a w j):wpAnyH P md ops Q S (fuel+1) listed a w:=
 wpAnyH_all hr (by simp) fun k hk=>by
  rcases List.mem_cons.1 hk with rfl | hk
  ·exact h
  ·obtain rfl:k=j:=by simpa using hk
   exact h'
theorem b8z(d:Option Tmp){o:Oper}(hi:ops[i]? = some o)(hd:o.dst=d)(ty:TypeId)(hg:o.guard=none)(ho:o.op=.alloc ty){t:TypeId}{size bytes:Nat}(El:Elem P t ty size bytes)
  (h:∀z:Array Value,z.size=size→S (w.alloc (.cells z ty))∧wpAnyH P md ops Q S fuel (listed.setIfInBounds i true) (a.put d (.pointer (some ⟨w.heap.size,0,none⟩))) (w.alloc (.cells z ty))):b3T P md ops Q S fuel listed a w i:=
 wpOp_step hi fun _ hK=>c1C d hd ty hg ho El fun z hz=>hK _ _ (h z hz)
theorem b9A(d:Option Tmp){o:Oper}(hi:ops[i]? = some o)(hd:o.dst=d)(ty:TypeId)(x y:Operand)(hg:o.guard=none)(ho:o.op=.store ty x y){t:TypeId}{size bytes:Nat}(El:Elem P t ty size bytes)(g:Nat)(cs:List Value)(hx:a.eval x=.pointer (some ⟨g,0,none⟩))(hy:a.eval y=.agg cs.toArray)
  {old:Array Value} (hb:Blk w g ty old) (hold:old.size=size) (hl:cs.length=size) (hone:∀u∈cs,u.oneCell'=true) (hS:S (w.setRow g cs.toArray))
  (h:wpAnyH P md ops Q S fuel (listed.setIfInBounds i true) (a.put d undef) (w.setRow g cs.toArray)):b3T P md ops Q S fuel listed a w i:=
 wpOp_step hi fun _ hK=>c1D d hd ty x y hg ho El g cs hx hy hb hold hl hone (hK _ _ ⟨hS,h⟩)
end
theorem b8T{P:Program}{o:Oper}{ρ:Operand→Value}{W:World}(ty:TypeId)(x:Operand)(ho:o.op=.load ty x){t:TypeId}{size bytes:Nat}(El:Elem P t ty size bytes)(b f:Nat)(hx:ρ x=.pointer (some ⟨b,f,none⟩))(cs:List Value)(hc:b1D W b f cs)(hl:cs.length=size)
  (hd:(P.underlying ty).map (·.isRow)=some true):(execOp ρ o).run P W=.ok (.value (.agg cs.toArray)) W:=by
 obtain⟨i,zv,hi,hz0,hz1,hz2,hz3⟩:=El.inf;obtain⟨d,hu,hd⟩:=b6b hd;unfold execOp;simp only[ho,hx,Instr.loadAt,Instr.sureAddr,Sem.run_bind,Sem.run_pure,Result.andThen_ok,run_loadVar_mid W b f ty cs d hc hu hd (by rw[hi,Option.map_some,hz1,hl])]
theorem b0S{P:Program}{o:Oper}{ρ:Operand→Value}{W:World}(ty:TypeId)(x:Operand){t:TypeId}{size bytes:Nat}(El:Elem P t ty size bytes)(b f:Nat)(cs:List Value)(hc:b1D W b f cs)(hl:cs.length=size)(ho:o.op=.load ty x:=by rfl)(hx:ρ x=.pointer (some ⟨b,f,none⟩):=by kernel_rfl)(hd:(P.underlying ty).map (·.isRow)=some true:=by kernel_rfl):(execOp ρ o).run P W=.ok (.value (.agg cs.toArray)) W:=b8T ty x ho El b f hx cs hc hl hd
section
variable {P:Program}{ops:Array Oper}{Q:Exit→Act→World→Prop}{rest:List Oper}{a:Act}{w:World}
def b4x(P:Program)(ops:Array Oper):Nat→List Oper→Act→World→Option (Act×World)
 | 0,_,a,w=>some (a,w)
 | _+1,[],_,_=>none
 | n+1,o::rest,a,w =>
  if Region.wanted o (yielded ops a.tmps) then
   match(execOp a.eval o).run P w with
   | .ok (.value v) w'=>b4x P ops n rest (a.put o.dst v) w'
   | _=>none
  else b4x P ops n rest (a.put o.dst undef) w
def b1C(a:Act):List (Option Tmp×Value)→Act
 | []=>a
 | x::l=>b1C (a.put x.1 x.2) l
def b4S(P:Program)(ops:Array Oper):Nat→List Oper→Act→World→Option (List (Option Tmp×Value)×World)
 | 0,_,_,w=>some ([],w)
 | _+1,[],_,_=>none
 | n+1,o::rest,a,w =>
  if Region.wanted o (yielded ops a.tmps) then
   match(execOp a.eval o).run P w with
   | .ok (.value v) w' =>
    match b4S P ops n rest (a.put o.dst v) w' with
    | some x=>some ((o.dst,v)::x.1,x.2)
    | none=>none
   | _=>none
  else
   match b4S P ops n rest (a.put o.dst undef) w with
   | some x=>some ((o.dst,undef)::x.1,x.2)
   | none=>none
theorem b6z:∀(n:Nat) (l:List Oper) (a:Act) (w:World) (ds:List (Option Tmp×Value)) (w':World),b4S P ops n l a w=some (ds,w')→b4x P ops n l a w=some (b1C a ds,w')
 | 0,_,a,w,ds,w',h=>by
  unfold b4S at h;injection h with h;injection h with h1 h2;subst h1 h2;rfl
 | n+1,[],_,_,_,_,h=>by unfold b4S at h;cases h
 | n+1,o::l,a,w,ds,w',h=>by
  unfold b4S at h;unfold b4x;split at h
  ·rename_i hw
   rw[if_pos hw];split at h
   ·rename_i v w2 hr
    split at h
    ·rename_i x hx
     injection h with h;injection h with h1 h2;subst h1 h2;exact b6z n l _ _ _ _ hx
    ·cases h
   ·cases h
  ·rename_i hw
   rw[if_neg hw];split at h
   ·rename_i x hx
    injection h with h;injection h with h1 h2;subst h1 h2;exact b6z n l _ _ _ _ hx
   ·cases h
theorem c2t(n:Nat)(ds:List (Option Tmp×Value))(hrunL:b4S P ops n rest a w=some (ds,w))(h:wpList P ops Q (rest.drop n) (b1C a ds) w):wpList P ops Q rest a w:=by
 have hrun:=b6z n rest a w ds w hrunL
 suffices H:∀(n:Nat) (l:List Oper) (a a':Act) (w w':World),b4x P ops n l a w=some (a',w')→wpList P ops Q (l.drop n) a' w'→wpList P ops Q l a w from H n rest a _ w w hrun h
 intro n;induction n with
 | zero =>
  intro l a a' w w' h1 h2;unfold b4x at h1;injection h1 with h1;injection h1 with h1 h3;subst h1 h3;exact h2
 | succ n ih =>
  intro l a a' w w' h1 h2;cases l with
  | nil=>unfold b4x at h1;cases h1
  | cons o l =>
   unfold b4x at h1;refine wpList_step fun K hK=>?_;split at h1
   ·rename_i hw
    rw[if_pos hw];split at h1
    ·rename_i v w2 hr
     unfold Oper.wp;rw[hr,Oper.upon_value];exact hK _ _ (ih l _ _ _ _ h1 h2)
    ·cases h1
   ·rename_i hw
    rw[if_neg hw];exact hK _ _ (ih l _ _ _ _ h1 h2)
end
section
variable {o:Oper}{ρ:Operand→Value}{W:World}{x y:Operand}{b f:Nat}{v:Value}{t t2:TypeId}{k l:Int}{s u:ByteArray}{c:Bool}
theorem c4F(ho:o.op=.load 3 x)(hx:ρ x=.pointer (some ⟨b,f,none⟩))(hc:W.cell? ⟨b,f,none⟩=some v):(execOp ρ o).run Try.prog W=.ok (.value v) W:=by
 simp[execOp,ho,hx,hc,go_sem]
theorem b0I(hc:W.cell? ⟨b,f,none⟩=some v)(ho:o.op=.load 3 x:=by rfl)(hx:ρ x=.pointer (some ⟨b,f,none⟩):=by kernel_rfl):(execOp ρ o).run Try.prog W=.ok (.value v) W:=c4F ho hx hc
variable {P:Program}
theorem c3L(ho:o.op=.binOp .neq 3 x y t2)(hx:ρ x=.int .i64 k)(hy:ρ y=.int .i64 l)(hc:(k != l)=c):(execOp ρ o).run Try.prog W=.ok (.value (.bool c)) W:=by
 subst hc;simp[execOp,ho,hx,hy,go_sem]
theorem b1a(hc:(k != l)=c)(ho:o.op=.binOp .neq 3 x y t2:=by rfl)(hx:ρ x=.int .i64 k:=by kernel_rfl)(hy:ρ y=.int .i64 l:=by kernel_rfl):(execOp ρ o).run Try.prog W=.ok (.value (.bool c)) W:=c3L ho hx hy hc
theorem c3I(ho:o.op=.binOp .eql 3 x y t2)(hx:ρ x=.int .i64 k)(hy:ρ y=.int .i64 l)(hc:(k==l)=c):(execOp ρ o).run Try.prog W=.ok (.value (.bool c)) W:=by
 subst hc;simp[execOp,ho,hx,hy,go_sem]
theorem b0b(hc:(k==l)=c)(ho:o.op=.binOp .eql 3 x y t2:=by rfl)(hx:ρ x=.int .i64 k:=by kernel_rfl)(hy:ρ y=.int .i64 l:=by kernel_rfl):(execOp ρ o).run Try.prog W=.ok (.value (.bool c)) W:=c3I ho hx hy hc
end
structure WL(P:Program)(ops:Array Oper)(Q:Exit→Act→World→Prop)(l:List Oper)(a:Act)(w:World):Prop where
 out:wpList P ops Q l a w
section
variable {P:Program}{ops:Array Oper}{Q:Exit→Act→World→Prop}{rest:List Oper}{o:Oper}{a:Act}{w:World}
theorem b1K{id:Nat}{l:List Oper}(h:WL P l.toArray Q l a w):(Code.region id l.toArray false).wp P Q a w:=wp_region_lit h.out
theorem b0o(h:Q .normal a w):WL P ops Q [] a w:=⟨h⟩
theorem c4h(d:Option Tmp)(v:Value)(hd:o.dst=d)(hw:Region.wanted o (yielded ops a.tmps)=true)(hrun:(execOp a.eval o).run P w=.ok (.value v) w)(h:WL P ops Q rest (a.put d v) w):WL P ops Q (o::rest) a w:=
 ⟨c4V d v hd hw hrun h.out⟩
theorem b0M(d:Option Tmp)(v:Value)(hrun:(execOp a.eval o).run P w=.ok (.value v) w)(h:WL P ops Q rest (a.put d v) w)(hd:o.dst=d:=by rfl)(hw:Region.wanted o (yielded ops a.tmps)=true:=by kernel_rfl):WL P ops Q (o::rest) a w:=c4h d v hd hw hrun h
theorem c3d(n:Nat)(rest':List Oper)(ds:List (Option Tmp×Value))(hr:rest.drop n=rest')(hrunL:b4S P ops n rest a w=some (ds,w))(h:WL P ops Q rest' (b1C a ds) w):WL P ops Q rest a w:=
 ⟨c2t n ds hrunL (hr▸h.out)⟩
theorem b0O(n:Nat)(rest':List Oper)(ds:List (Option Tmp×Value))(h:WL P ops Q rest' (b1C a ds) w)(hr:rest.drop n=rest':=by rfl)(hrunL:b4S P ops n rest a w=some (ds,w):=by kernel_rfl):WL P ops Q rest a w:=c3d n rest' ds hr hrunL h
theorem c3c(d:Option Tmp)(hd:o.dst=d)(hw:Region.wanted o (yielded ops a.tmps)=true)(f:FuncId)(args:Array Value)(hrun:(execOp a.eval o).run P w=.ok (.enter f args) w){R:Ending→World→Prop}(hc:Calls P f args w R)
  (h:∀e w',R e w'→∃v,e=.returned v∧WL P ops Q rest (a.put d v) w'):WL P ops Q (o::rest) a w:=
 ⟨c0W d hd hw f args hrun hc fun e w' hR=>by
  obtain⟨v,he,hW⟩:=h e w' hR;exact⟨v,he,hW.out⟩⟩
theorem b0s(d:Option Tmp)(f:FuncId)(args:Array Value){R:Ending→World→Prop}(hc:Calls P f args w R)(h:∀e w',R e w'→∃v,e=.returned v∧WL P ops Q rest (a.put d v) w')(hd:o.dst=d:=by rfl)(hw:Region.wanted o (yielded ops a.tmps)=true:=by kernel_rfl)(hrun:(execOp a.eval o).run P w=.ok (.enter f args) w:=by kernel_rfl):WL P ops Q (o::rest) a w:=c3c d hd hw f args hrun hc h
end
theorem b0g{W:World}{G:Nat}{t:TypeId}{cs:Array Value}(h:Blk W G t cs)(o:Nat){vs:List Value}(hv:(cs.extract o (o+vs.length)).toList=vs):b1D W G o vs:=fun j u hu=>World.rangeAt_of_block h o vs.length j u (by rw[hv];exact hu)
theorem b3n{w0 w W:World}{g:Nat}(h0:Bel w0 w)(hg:w0.heap.size≤g)(h:w.grownBy W (some g)):Bel w0 W:=
 Below.grown h0 h h0.size (fun k hk=>by
  have:g=k:=Option.some.inj hk;omega)
theorem b4l{o:Oper}{ρ:Operand→Value}{W:World}{x y:Operand}{t2:TypeId}{k l:Int}{c:Bool}(ho:o.op=.binOp .leq 3 x y t2)(hx:ρ x=.int .i64 k)(hy:ρ y=.int .i64 l)(hc:decide (k≤l)=c):(execOp ρ o).run Try.prog W=.ok (.value (.bool c)) W:=by
 subst hc;simp[execOp,ho,hx,hy,go_sem]
theorem c3J{o:Oper}{ρ:Operand→Value}{W:World}{x y:Operand}{t2:TypeId}{k l:Int}{c:Bool}(ho:o.op=.binOp .gtr 3 x y t2)(hx:ρ x=.int .i64 k)(hy:ρ y=.int .i64 l)(hc:decide (l<k)=c):(execOp ρ o).run Try.prog W=.ok (.value (.bool c)) W:=by
 subst hc;simp[execOp,ho,hx,hy,go_sem]
theorem b0Z{o:Oper}{ρ:Operand→Value}{W:World}{x y:Operand}{t2:TypeId}{k l:Int}{c:Bool}(hc:decide (l<k)=c)(ho:o.op=.binOp .gtr 3 x y t2:=by rfl)(hx:ρ x=.int .i64 k:=by kernel_rfl)(hy:ρ y=.int .i64 l:=by kernel_rfl):(execOp ρ o).run Try.prog W=.ok (.value (.bool c)) W:=c3J ho hx hy hc
theorem b2L{o:Oper}{ρ:Operand→Value}{W:World}{x y:Operand}{t2:TypeId}{k l:Int}{c:Bool}(ho:o.op=.binOp .eql 28 x y t2)(hx:ρ x=.int .i64 k)(hy:ρ y=.int .i64 l)(hc:(k==l)=c):(execOp ρ o).run Try.prog W=.ok (.value (.bool c)) W:=by
 subst hc;simp[execOp,ho,hx,hy,go_sem]
section
variable {o:Oper}{ρ:Operand→Value}{W:World}{x y:Operand}{t2:TypeId}
theorem c3K{k l:Int}{c:Bool}(ho:o.op=.binOp .lss 3 x y t2)(hx:ρ x=.int .i64 k)(hy:ρ y=.int .i64 l)(hc:decide (k<l)=c):(execOp ρ o).run Try.prog W=.ok (.value (.bool c)) W:=by
 subst hc;simp[execOp,ho,hx,hy,go_sem]
theorem b0u{k l:Int}{c:Bool}(hc:decide (k<l)=c)(ho:o.op=.binOp .lss 3 x y t2:=by rfl)(hx:ρ x=.int .i64 k:=by kernel_rfl)(hy:ρ y=.int .i64 l:=by kernel_rfl):(execOp ρ o).run Try.prog W=.ok (.value (.bool c)) W:=c3K ho hx hy hc
end
theorem b3x:Elem Try.prog 45 47 3 40:=Elem.mk_ (z:=.agg #[.int .i64 0,.int .i64 0,.slice none 0 0]) (by kernel_rfl) (by kernel_rfl) rfl (by decide)
theorem b5x:Elem Try.prog 76 120 12 176:=Elem.mk_ (z:=.agg #[.int .i64 0,.int .i64 0,.int .i64 0,.int .i64 0,.int .i64 0,.slice none 0 0,.int .i64 0,.int .i64 0,.slice none 0 0,.slice none 0 0,.slice none 0 0,.slice none 0 0]) (by kernel_rfl) (by kernel_rfl) rfl (by decide)
theorem b6L:Elem Try.prog 38 78 6 96:=Elem.mk_ (z:=.agg #[.int .i64 0,.slice none 0 0,.slice none 0 0,.int .i64 0,.int .i64 0,.slice none 0 0]) (by kernel_rfl) (by kernel_rfl) rfl (by decide)
theorem b4e:Elem Try.prog 27 63 6 48:=Elem.mk_ (z:=.agg #[.int .i64 0,.int .i64 0,.int .i64 0,.int .i64 0,.int .i64 0,.int .i64 0]) (by kernel_rfl) (by kernel_rfl) rfl (by decide)
theorem elI:Elem Try.prog 23 3 1 8:=Elem.mk_ (z:=.int .i64 0) (by kernel_rfl) (by kernel_rfl) rfl (by decide)
theorem c3h:Elem Try.prog 24 23 1 24:=Elem.mk_ (z:=.slice none 0 0) (by kernel_rfl) (by kernel_rfl) rfl (by decide)
theorem c4c:∃d,Try.prog.underlying 47=some d∧d.isRow=true:=b6b (by kernel_rfl)
theorem c4b:∃d,Try.prog.underlying 120=some d∧d.isRow=true:=b6b (by kernel_rfl)
theorem c4d:∃d,Try.prog.underlying 78=some d∧d.isRow=true:=b6b (by kernel_rfl)
theorem b6x{W:World}{cs:List Value}{x:PE}(h:peR.R W cs x):∀u∈cs,u.oneCell'=true:=by
 obtain⟨k,n,args⟩:=x;obtain⟨v,rfl,h1⟩:=PER.opened h;obtain⟨_,_,rfl,-⟩:=h1;simp[Value.oneCell']
theorem b4i{W:World}{cs:List Value}{x:PC}(h:pcR.R W cs x):∀u∈cs,u.oneCell'=true:=by
 obtain⟨k,u,g,i,e,args,thn,els⟩:=x;obtain⟨vi,ve,va,vt,vs,rfl,h1,h2,h3,h4,h5⟩:=PCR.opened h;obtain⟨_,_,rfl,-⟩:=h1;obtain⟨_,_,rfl,-⟩:=h2;obtain⟨_,_,rfl,-⟩:=h3;obtain⟨_,_,rfl,-⟩:=h4;obtain⟨_,_,rfl,-⟩:=h5;simp[Value.oneCell']
theorem b6y{W:World}{cs:List Value}{x:PF}(h:pfR.R W cs x):∀u∈cs,u.oneCell'=true:=by
 obtain⟨vz,vc,vr,rfl,h1,h2,h3⟩:=h;obtain⟨_,_,rfl,-⟩:=h1;obtain⟨_,_,rfl,-⟩:=h2;obtain⟨_,_,rfl,-⟩:=h3;simp[Value.oneCell']
section
variable {ops:Array Oper}{rest:List Oper}{o1 o2 o3:Oper}{a:Act}{w:World}{Q:Exit→Act→World→Prop}
theorem c3q(x y z:Operand)(hg1:o1.guard=none)(hg2:o2.guard=none)(hg3:o3.guard=none)
  (ho1:o1.op=.load 47 x) (ho2:o2.op=.alloc 47) (ho3:o3.op=.store 47 y z) (b o:Nat) (hx:a.eval x=.pointer (some ⟨b,o,none⟩)) (cs:List Value) (hc:b1D w b o cs) {W:World} {c:PE} (hr:PER W c cs)
  (hy:((a.put o1.dst (.agg cs.toArray)).put o2.dst (.pointer (some ⟨w.heap.size,0,none⟩))).eval y=.pointer (some ⟨w.heap.size,0,none⟩))
  (hz:((a.put o1.dst (.agg cs.toArray)).put o2.dst (.pointer (some ⟨w.heap.size,0,none⟩))).eval z=.agg cs.toArray)
  (h:wpList Try.prog ops Q rest (((a.put o1.dst (.agg cs.toArray)).put o2.dst (.pointer (some ⟨w.heap.size,0,none⟩))).put o3.dst undef) (w.alloc (.cells cs.toArray 47))):wpList Try.prog ops Q (o1::o2::o3::rest) a w:=by
 obtain⟨d,hu,hd⟩:=c4c;exact b2p _ x y z hg1 hg2 hg3 ho1 ho2 ho3 b o hx cs hc b3x d hu hd (peR.len hr) (b6x hr) hy hz h
theorem b8h(x y z:Operand)(hg1:o1.guard=none)(hg2:o2.guard=none)(hg3:o3.guard=none)
  (ho1:o1.op=.load 120 x) (ho2:o2.op=.alloc 120) (ho3:o3.op=.store 120 y z) (b o:Nat) (hx:a.eval x=.pointer (some ⟨b,o,none⟩)) (cs:List Value) (hc:b1D w b o cs) {W:World} {c:PC} (hr:PCR W c cs)
  (hy:((a.put o1.dst (.agg cs.toArray)).put o2.dst (.pointer (some ⟨w.heap.size,0,none⟩))).eval y=.pointer (some ⟨w.heap.size,0,none⟩))
  (hz:((a.put o1.dst (.agg cs.toArray)).put o2.dst (.pointer (some ⟨w.heap.size,0,none⟩))).eval z=.agg cs.toArray)
  (h:wpList Try.prog ops Q rest (((a.put o1.dst (.agg cs.toArray)).put o2.dst (.pointer (some ⟨w.heap.size,0,none⟩))).put o3.dst undef) (w.alloc (.cells cs.toArray 120))):wpList Try.prog ops Q (o1::o2::o3::rest) a w:=by
 obtain⟨d,hu,hd⟩:=c4b;exact b2p _ x y z hg1 hg2 hg3 ho1 ho2 ho3 b o hx cs hc b5x d hu hd (pcR.len hr) (b4i hr) hy hz h
theorem c2S(x y z:Operand)(hg1:o1.guard=none)(hg2:o2.guard=none)(hg3:o3.guard=none)
  (ho1:o1.op=.load 78 x) (ho2:o2.op=.alloc 78) (ho3:o3.op=.store 78 y z) (b o:Nat) (hx:a.eval x=.pointer (some ⟨b,o,none⟩)) (cs:List Value) (hc:b1D w b o cs) {W:World} {c:PF} (hr:PFR W c cs)
  (hy:((a.put o1.dst (.agg cs.toArray)).put o2.dst (.pointer (some ⟨w.heap.size,0,none⟩))).eval y=.pointer (some ⟨w.heap.size,0,none⟩))
  (hz:((a.put o1.dst (.agg cs.toArray)).put o2.dst (.pointer (some ⟨w.heap.size,0,none⟩))).eval z=.agg cs.toArray)
  (h:wpList Try.prog ops Q rest (((a.put o1.dst (.agg cs.toArray)).put o2.dst (.pointer (some ⟨w.heap.size,0,none⟩))).put o3.dst undef) (w.alloc (.cells cs.toArray 78))):wpList Try.prog ops Q (o1::o2::o3::rest) a w:=by
 obtain⟨d,hu,hd⟩:=c4d;exact b2p _ x y z hg1 hg2 hg3 ho1 ho2 ho3 b o hx cs hc b6L d hu hd (pfR.len hr) (b6y hr) hy hz h
end
theorem Sl.elem{α:Type}{r:Rep α}{w:World}{A:Option Addr}{n c:Nat}{xs:List α}(h:Sl r w (.slice A n c) xs){k:Nat}{x:α}(hk:xs[k]? = some x):∃b o cs,A=some ⟨b,o,none⟩∧r.R w cs x∧b1D w b (o+k*r.size) cs:=by
 obtain⟨b,o,rfl,h5⟩:=h.lies (by have:=(List.getElem?_eq_some_iff.1 hk).1;omega);obtain⟨cs,h6,h7⟩:=h5 k x hk;exact⟨b,o,cs,rfl,h6,h7⟩
theorem c0g{w:World}{x:PE}{cs:List Value}(h:PER w x cs):∃v,cs=[.int .i64 x.kind,.int .i64 x.n,v]∧Sl peR w v x.args:=by
 obtain⟨k,n,args⟩:=x;exact PER.opened h
theorem b1Z{w:World}{x:PC}{cs:List Value}(h:PCR w x cs):∃vi ve va vt vs,cs=[.int .i64 x.kind,.int .i64 x.var,.int .i64 x.fn,.int .i64 x.index.kind,.int .i64 x.index.n,vi,.int .i64 x.expr.kind,.int .i64 x.expr.n,ve,va,vt,vs] ∧
  Sl peR w vi x.index.args∧Sl peR w ve x.expr.args∧Sl peR w va x.args∧Sl pcR w vt x.thn∧Sl pcR w vs x.els:=by
 obtain⟨k,u,g,i,e,args,thn,els⟩:=x;exact PCR.opened h
end Go.Proofs.Ytgkpplbomciehaa
