/- Steps of walks by slots: indexes, copies, appends. Each lemma states its own conditions. -/
import Derived.Test.YtgkpplbomciehaaStt14
namespace Go.Proofs.Ytgkpplbomciehaa
set_option maxRecDepth 20000
set_option maxHeartbeats 4000000
open Go.RowKit
section
variable {P:Program}{ρ:Operand→Value}{o:Oper}{w:World}
theorem b5m{t e:TypeId}{size bytes:Nat}(E:Elem P t e size bytes){x i:Operand}(b f n c k:Nat)(ho:o.op=.indexAddr t x i)(hx:ρ x=.slice (some ⟨b,f,none⟩) n c)(hi:ρ i=.int .i64 (k:Int))(hk:k<n) :
  (execOp ρ o).run P w=.ok (.value (.pointer (some ⟨b,f+k*size,none⟩))) w:=by
 obtain⟨inf,z,h1,h2,h3,h4,h5⟩:=E.inf;have hsz:P.cellsOf e=size:=by simp[Program.cellsOf,h1,h3]
 have hb:(0:Int)≤(k:Int)∧(k:Int)<(n:Int):=by omega
 have hadd:(⟨b,f,none⟩:Addr).add (k*size)=⟨b,f+k*size,none⟩:=by unfold Addr.add;split<;>simp_all
 have hu:(underlying t).run P w=.ok (.slice e) w:=run_underlying E.und w;have hs:(sizeOf e).run P w=.ok size w:=by rw[run_sizeOf w h1,hsz]
 simp[execOp,ho,hx,hi,Instr.indexAt,asIntOf,go_sem,hu,hs,hk,Sem.run_bind]
theorem b0t{t e:TypeId}{size bytes:Nat}(E:Elem P t e size bytes){x i:Operand}(b f n c k:Nat)(hk:k<n)(ho:o.op=.indexAddr t x i:=by rfl)(hx:ρ x=.slice (some ⟨b,f,none⟩) n c:=by kernel_rfl)(hi:ρ i=.int .i64 (k:Int):=by kernel_rfl):(execOp ρ o).run P w=.ok (.value (.pointer (some ⟨b,f+k*size,none⟩))) w:=b5m E b f n c k ho hx hi hk
theorem b7E{t e:TypeId}{bytes:Nat}(E:Elem P t e 1 bytes){x i:Operand}(b f n c k:Nat)(ho:o.op=.indexAddr t x i)(hx:ρ x=.slice (some ⟨b,f,none⟩) n c)(hi:ρ i=.int .i64 (k:Int))(hk:k<n) :
  (execOp ρ o).run P w=.ok (.value (.pointer (some ⟨b,f+k,none⟩))) w:=by
 have:=b5m E (w:=w) b f n c k ho hx hi hk
 rwa [Nat.mul_one] at this
theorem b3A{t e:TypeId}{size bytes:Nat}(E:Elem P t e size bytes){x i:Operand}(b n c k:Nat)(ho:o.op=.indexAddr t x i)(hx:ρ x=.slice (some ⟨b,0,none⟩) n c)(hi:ρ i=.int .i64 (k:Int))(hk:k<n) :
  (execOp ρ o).run P w=.ok (.value (.pointer (some ⟨b,k*size,none⟩))) w:=by
 have:=b5m E (w:=w) b 0 n c k ho hx hi hk
 rwa [Nat.zero_add] at this
theorem b2a{t e:TypeId}{bytes:Nat}(E:Elem P t e 1 bytes){x i:Operand}(b n c:Nat)(k:Int)(ho:o.op=.indexAddr t x i)(hx:ρ x=.slice (some ⟨b,0,none⟩) n c)(hi:ρ i=.int .i64 k)(h0:0≤k)(hk:k<n) :
  (execOp ρ o).run P w=.ok (.value (.pointer (some ⟨b,k.toNat,none⟩))) w:=by
 have:=b3A E (w:=w) b n c k.toNat ho hx (by rw[hi,show((k.toNat:Nat):Int)=k by omega]) (by omega)
 rwa [Nat.mul_one] at this
theorem b8S{t e:TypeId}{size bytes:Nat}(E:Elem P t e size bytes){x i:Operand}(b f n c:Nat)(k:Int)(ho:o.op=.indexAddr t x i)(hx:ρ x=.slice (some ⟨b,f,none⟩) n c)(hi:ρ i=.int .i64 k)(h0:0≤k)(hk:k<n) :
  (execOp ρ o).run P w=.ok (.value (.pointer (some ⟨b,f+k.toNat*size,none⟩))) w:=
 b5m E b f n c k.toNat ho hx (by rw[hi,show((k.toNat:Nat):Int)=k by omega]) (by omega)
theorem b8v{t e:TypeId}{bytes:Nat}(E:Elem P t e 1 bytes){x i:Operand}(b f n c:Nat)(k:Int)(ho:o.op=.indexAddr t x i)(hx:ρ x=.slice (some ⟨b,f,none⟩) n c)(hi:ρ i=.int .i64 k)(h0:0≤k)(hk:k<n) :
  (execOp ρ o).run P w=.ok (.value (.pointer (some ⟨b,f+k.toNat,none⟩))) w:=by
 have:=b8S E (w:=w) b f n c k ho hx hi h0 hk
 rwa [Nat.mul_one] at this
end
section
variable {P:Program}{ops:Array Oper}{rest:List Oper}{o1 o2 o3:Oper}{N:Nat}{s:List (Nat×Value)}{w:World}{Q:Exit→Act→World→Prop}
theorem b4p(ty:TypeId)(x:Operand)(d1 d2:Nat)(hg:o1.guard=none∧o2.guard=none∧o3.guard=none)(hop:o1.op=.load ty x∧o2.op=.alloc ty∧o3.op=.store ty (.tmp d2) (.tmp d1))(hd:o1.dst=some d1∧o2.dst=some d2∧o3.dst=none)(hN:(Nat.blt d1 N && (Nat.blt d2 N && !Nat.beq d2 d1))=true)
  (b f:Nat) (hk:knows s x=true) (hx:evl s x=.pointer (some ⟨b,f,none⟩)) (cs:List Value) (hc:b1D w b f cs) {t:TypeId} {size bytes:Nat} (E:Elem P t ty size bytes) (hu:(P.underlying ty).map (·.isRow)=some true) (hl:cs.length=size) (hone:∀u∈cs,u.oneCell'=true)
  (h:WA P ops Q rest N ((d2,.pointer (some ⟨w.heap.size,0,none⟩))::(d1,.agg cs.toArray)::s) (w.alloc (.cells cs.toArray ty))):WA P ops Q (o1::o2::o3::rest) N s w:=by
 obtain⟨d,hd1,hd2⟩:=b6b hu;rw[Bool.and_eq_true,Bool.and_eq_true] at hN;obtain⟨n1,n2,n3⟩:=hN;refine⟨fun a ha=>?_⟩
 have A1:AtF N ((d1,.agg cs.toArray)::s) (a.put o1.dst (.agg cs.toArray)):=by
  rw[hd.1];exact ha.put (o:={ o1 with dst:=some d1 }) (d:=some d1) (by unfold b1o;simp[n1]) _
 have A2:AtF N ((d2,.pointer (some ⟨w.heap.size,0,none⟩))::(d1,.agg cs.toArray)::s) ((a.put o1.dst (.agg cs.toArray)).put o2.dst (.pointer (some ⟨w.heap.size,0,none⟩))):=by
  rw[hd.2.1];exact A1.put (o:={ o1 with dst:=some d2 }) (d:=some d2) (by unfold b1o;simp[n2]) _
 have l2:lk d2 ((d2,.pointer (some ⟨w.heap.size,0,none⟩))::(d1,.agg cs.toArray)::s)=some (.pointer (some ⟨w.heap.size,0,none⟩)):=by
  rw[lk,show Nat.beq d2 d2=true from Nat.beq_refl d2];rfl
 have l1:lk d1 ((d2,.pointer (some ⟨w.heap.size,0,none⟩))::(d1,.agg cs.toArray)::s)=some (.agg cs.toArray):=by
  rw[lk,show Nat.beq d2 d1=false by simpa using n3,cond_false,lk,show Nat.beq d1 d1=true from Nat.beq_refl d1];rfl
 refine b2p ty x (.tmp d2) (.tmp d1) hg.1 hg.2.1 hg.2.2 hop.1 hop.2.1 hop.2.2 b f (by rw[ha.eval hk,hx]) cs hc E d hd1 hd2 hl hone ?_ ?_ ?_
 ·exact A2.getD l2
 ·exact A2.getD l1
 ·rw[hd.2.2];exact h.out _ A2
end
section
variable {ρ:Operand→Value}{o:Oper}{W:World}{x y:Operand}{t2:TypeId}{k l:Int}{c:Bool}
theorem b8P(ho:o.op=.binOp .neq 28 x y t2)(hx:ρ x=.int .i64 k)(hy:ρ y=.int .i64 l)(hc:(k != l)=c):(execOp ρ o).run Try.prog W=.ok (.value (.bool c)) W:=by
 subst hc;simp[execOp,ho,hx,hy,go_sem]
theorem b7A(ho:o.op=.binOp .geq 3 x y t2)(hx:ρ x=.int .i64 k)(hy:ρ y=.int .i64 l)(hc:decide (l≤k)=c):(execOp ρ o).run Try.prog W=.ok (.value (.bool c)) W:=by
 subst hc;simp[execOp,ho,hx,hy,go_sem]
end
def b7L(Q:Exit→Act→World→Prop):Prop:=∀c a d v w,Q (.panic c) (Act.put a d v) w→Q (.panic c) a w
theorem b9i(a:Act)(d:Option Tmp)(v:Value):(Act.put a d v).defers=a.defers:=by cases d<;>rfl
theorem b1J{P:Program}{fn:Func}{R:Ending→World→Prop}:b7L (bodyPost P fn R):=fun c a d v w h=>by
 obtain⟨h1,h2⟩:=h;exact⟨(b9i a d v).symm.trans h1,h2⟩
theorem b0k{K:Act→World→Prop}{Q:Exit→Act→World→Prop}(h:b7L Q):b7L (Exit.then K Q):=fun c a d v w hq=>h c a d v w hq
theorem b1X{id:Nat}{Q:Exit→Act→World→Prop}(h:b7L Q):b7L (Exit.inBlock id Q):=fun c a d v w hq=>h c a d v w hq
structure RA(P:Program)(ops:Array Oper)(Q:Exit→Act→World→Prop)(S:World→Prop)(fuel:Nat)(listed:Array Bool)(N:Nat)(s:List (Nat×Value))(w:World):Prop where
 out:b7L Q→S w→∀a,AtF N s a→wpAnyH P .any ops Q S fuel listed a w
def c3Z(ops:Array Oper)(listed:Array Bool)(i N:Nat)(s:List (Nat×Value))(d:Option Tmp):Bool:=
 match ops[i]? with
 | some o=>Region.noSelect ops && (Region.free .any ops listed i && ((Region.ready .any ops listed).contains i && (b1o N o d && b5h ops s o)))
 | none=>false
def c2X(ops:Array Oper)(listed:Array Bool)(i N:Nat)(s:List (Nat×Value))(d:Option Tmp):Bool:=
 match ops[i]? with
 | some o=>(Region.ready .any ops listed==[i]) && (b1o N o d && b5h ops s o)
 | none=>false
section
variable {P:Program}{ops:Array Oper}{Q:Exit→Act→World→Prop}{S:World→Prop}{fuel:Nat}{listed:Array Bool}{N:Nat}{s:List (Nat×Value)}{w:World}
theorem b1T{id:Nat}{l:List Oper}(S:World→Prop)(hm:P.follows .mixedOrders=true)(hS:S w.drew)(hP:b7L Q)(h:RA P l.toArray Q S l.toArray.size (Array.replicate l.toArray.size false) N s w.drew):CA P (.region id l.toArray true) Q N s w:=
 ⟨fun a ha=>wp_region_held_drew hm hS fun hS'=>h.out hP hS' a ha⟩
theorem c3G(i:Nat)(d:Option Tmp)(v:Value){o:Oper}(hi:ops[i]? = some o)(hc:c3Z ops listed i N s d=true)(hrun:∀W,S W→(execOp (evl s) o).run P W=.ok (.value v) W)
  (h:RA P ops Q S fuel (listed.setIfInBounds i true) N (b3U d v s) w):RA P ops Q S (fuel+1) listed N s w:=
 ⟨fun hP hS a ha=>by
  unfold c3Z at hc;rw[hi] at hc;simp only[Bool.and_eq_true] at hc;obtain⟨h1,h2,h3,h4,h5⟩:=hc;exact c0t d v hi (b1N h4) h1 h2 h3 (fun c a w hq=>hP c a d v w hq) (ha.done h5) hS (fun W hW=>by rw[ha.exec h5];exact hrun W hW) (h.out hP hS _ (ha.put h4 v))⟩
theorem b0C(i:Nat)(d:Option Tmp)(v:Value){o:Oper}(hi:ops[i]? = some o)(hrun:∀W,S W→(execOp (evl s) o).run P W=.ok (.value v) W)(h:RA P ops Q S fuel (listed.setIfInBounds i true) N (b3U d v s) w)(hc:c3Z ops listed i N s d=true:=by kernel_rfl):RA P ops Q S (fuel+1) listed N s w:=c3G i d v hi hc hrun h
theorem b2Y(i:Nat)(d:Option Tmp)(v:Value)(w':World){o:Oper}(hi:ops[i]? = some o)(hc:c2X ops listed i N s d=true)(hrun:(execOp (evl s) o).run P w=.ok (.value v) w')(hS':S w')
  (h:RA P ops Q S fuel (listed.setIfInBounds i true) N (b3U d v s) w'):RA P ops Q S (fuel+1) listed N s w:=
 ⟨fun hP _ a ha=>by
  unfold c2X at hc;rw[hi] at hc;simp only[Bool.and_eq_true] at hc;obtain⟨h1,h4,h5⟩:=hc;exact c0r d (by simpa using h1) hi (b1N h4) (ha.done h5) v w' (by rw[ha.exec h5];exact hrun) hS' (fun hS2=>h.out hP hS2 _ (ha.put h4 v))⟩
theorem b1m(i:Nat)(d:Option Tmp){o:Oper}(hi:ops[i]? = some o)(hc:c2X ops listed i N s d=true)(f:FuncId)(args:Array Value)(hrun:(execOp (evl s) o).run P w=.ok (.enter f args) w){R:Ending→World→Prop}(hC:Calls P f args w R)
  (h:∀e w',R e w'→∃v,e=.returned v∧S w'∧RA P ops Q S fuel (listed.setIfInBounds i true) N (b3U d v s) w'):RA P ops Q S (fuel+1) listed N s w:=
 ⟨fun hP _ a ha=>by
  unfold c2X at hc;rw[hi] at hc;simp only[Bool.and_eq_true] at hc;obtain⟨h1,h4,h5⟩:=hc
  exact c0q d (by simpa using h1) hi (b1N h4) (ha.done h5) f args (by rw[ha.exec h5];exact hrun) hC fun e w' hR=>by
   obtain⟨v,he,hS',hW⟩:=h e w' hR;exact⟨v,he,hS',fun hS2=>hW.out hP hS2 _ (ha.put h4 v)⟩⟩
theorem b2Z(i:Nat)(d:Option Tmp)(w':World){o:Oper}(hi:ops[i]? = some o)(hc:c2X ops listed i N s d=true)(hrun:(execOp (evl s) o).run P w=.ok .skip w')(hS':S w')
  (h:RA P ops Q S fuel (listed.setIfInBounds i true) N (b3U d undef s) w'):RA P ops Q S (fuel+1) listed N s w:=
 ⟨fun hP _ a ha=>by
  unfold c2X at hc;rw[hi] at hc;simp only[Bool.and_eq_true] at hc;obtain⟨h1,h4,h5⟩:=hc;refine wpAnyH_ready (by simpa using h1) (by simp) (AllReadyH.cons hi (fun K hK=>?_) AllReadyH.nil);rw[if_pos (ha.done h5)];unfold Oper.wp;rw[ha.exec h5,hrun,Oper.upon_skip,b1N h4];exact hK.out _ _ hS' fun hS2=>h.out hP hS2 _ (ha.put h4 undef)⟩
theorem c3F(hr:Region.ready .any ops listed=[])(h:LA Q .normal N s w):RA P ops Q S fuel listed N s w:=⟨fun _ _ a ha=>wpAnyH_done hr (h.out a ha) _⟩
theorem b0f(h:LA Q .normal N s w)(hr:Region.ready .any ops listed=[]:=by kernel_rfl):RA P ops Q S fuel listed N s w:=c3F hr h
structure RS(P:Program)(ops:Array Oper)(Q:Exit→Act→World→Prop)(S:World→Prop)(fuel:Nat)(listed:Array Bool)(N:Nat)(s:List (Nat×Value))(w:World)(i:Nat):Prop where
 out:b7L Q→S w→∀a,AtF N s a→b3T P .any ops Q S fuel listed a w i
def c2G(ops:Array Oper)(i N:Nat)(s:List (Nat×Value))(d:Option Tmp):Bool:=
 match ops[i]? with
 | some o=>b1o N o d && b5h ops s o
 | none=>false
theorem b3f(i j:Nat)(hr:Region.ready .any ops listed=[i,j])(h:RS P ops Q S fuel listed N s w i)(h':RS P ops Q S fuel listed N s w j):RA P ops Q S (fuel+1) listed N s w:=
 ⟨fun hP hS a ha=>b9B hr (h.out hP hS a ha) (h'.out hP hS a ha)⟩
theorem b3Y(d:Option Tmp)(v:Value)(w':World){i:Nat}{o:Oper}(hi:ops[i]? = some o)(hc:c2G ops i N s d=true)(hrun:(execOp (evl s) o).run P w=.ok (.value v) w')(hS':S w')
  (h:RA P ops Q S fuel (listed.setIfInBounds i true) N (b3U d v s) w'):RS P ops Q S fuel listed N s w i:=
 ⟨fun hP _ a ha=>wpOp_step hi fun _ hK=>by
  unfold c2G at hc;rw[hi] at hc;simp only[Bool.and_eq_true] at hc;rw[if_pos (ha.done hc.2)];unfold Oper.wp;rw[ha.exec hc.2,hrun,Oper.upon_value,b1N hc.1];exact hK _ _ ⟨hS',h.out hP hS' _ (ha.put hc.1 v)⟩⟩
theorem b7D(d:Option Tmp){i:Nat}{o:Oper}(hi:ops[i]? = some o)(hc:c2G ops i N s d=true)(f:FuncId)(args:Array Value)(hrun:(execOp (evl s) o).run P w=.ok (.enter f args) w){R:Ending→World→Prop}(hC:Calls P f args w R)
  (h:∀e w',R e w'→∃v,e=.returned v∧S w'∧RA P ops Q S fuel (listed.setIfInBounds i true) N (b3U d v s) w'):RS P ops Q S fuel listed N s w i:=
 ⟨fun hP _ a ha=>wpOp_step hi fun _ hK=>by
  unfold c2G at hc;rw[hi] at hc;simp only[Bool.and_eq_true] at hc;rw[if_pos (ha.done hc.2)];unfold Oper.wp;rw[ha.exec hc.2,hrun,Oper.upon_enter];refine hC.mono fun e w' hh=>?_;obtain⟨v,rfl,hS',hW⟩:=h e w' hh;rw[b1N hc.1];exact hK _ _ ⟨hS',hW.out hP hS' _ (ha.put hc.1 v)⟩⟩
end
section
variable {P:Program}{ops:Array Oper}{Q:Exit→Act→World→Prop}{S:World→Prop}{fuel:Nat}{listed:Array Bool}{N:Nat}{s:List (Nat×Value)}{rest:List Oper}
theorem AtF.known{a:Act}{x:Operand}{v:Value}(h:AtF N s a)(hk:knows s x=true)(hx:evl s x=v):a.eval x=v:=by rw[h.eval hk,hx]
theorem b4T(i:Nat)(d:Option Tmp)(W:World){o:Oper}(y x:Operand)(t:TypeId)(hi:ops[i]? = some o)(hc:c2X ops listed i N s d=true)(hg:o.guard=none)
  (ho:o.op=.call { callee:=.builtin .append,args:=#[y,x],argTypes:=#[t,t] }) (base:Nat) {e:TypeId} {size bytes:Nat} (E:Elem P t e size bytes)
  (v:Value) (n:Nat) (xs:List Value) (hky:knows s y=true) (hy:evl s y=v) (hown:W.ownsRow base e size v n xs) (cs:List Value) (hkx:knows s x=true) (hx:evl s x=.slice (some ⟨W.heap.size,0,none⟩) 1 1)
  (hl:cs.length=size) (h1:∀u∈cs,u.oneCell'=true) (h63:n+1≤maxLen) (hbytes:(n+1)*bytes≤140737488355328) (hbase:base≤W.heap.size)
  (h:∀g cap w',w'.ownsRow base e size (.slice (some ⟨g,0,none⟩) (n+1) cap) (n+1) (xs++cs)→W.grownBy w' v.ownBlock→(v.ownBlock=some g∨W.heap.size≤g) →
   S w'∧RA P ops Q S fuel (listed.setIfInBounds i true) N (b3U d (.slice (some ⟨g,0,none⟩) (n+1) cap) s) w'):RA P ops Q S (fuel+1) listed N s (W.alloc (.cells cs.toArray e)):=
 ⟨fun hP _ a ha=>by
  unfold c2X at hc;rw[hi] at hc;simp only[Bool.and_eq_true] at hc;obtain⟨h2,h4,h5⟩:=hc;refine wpAnyH_ready (by simpa using h2) (by simp) (AllReadyH.cons hi (fun K hK=>?_) AllReadyH.nil);refine b4U W hg y x t ho base E v n xs (ha.known hky hy) hown cs _ rfl (ha.known hkx hx) hl h1 h63 hbytes hbase (fun g cap w' a1 a2 a3=>?_) rfl;obtain⟨hS',hR⟩:=h g cap w' a1 a2 a3;rw[b1N h4];exact hK.out _ _ hS' fun hS2=>hR.out hP hS2 _ (ha.put h4 _)⟩
theorem b3z(d:Option Tmp)(W:World){o:Oper}(y x:Operand)(t:TypeId)(hd:b1o N o d=true)(hg:o.guard=none)
  (ho:o.op=.call { callee:=.builtin .append,args:=#[y,x],argTypes:=#[t,t] }) (base:Nat) {e:TypeId} {size bytes:Nat} (E:Elem P t e size bytes)
  (v:Value) (n:Nat) (xs:List Value) (hky:knows s y=true) (hy:evl s y=v) (hown:W.ownsRow base e size v n xs) (cs:List Value) (hkx:knows s x=true) (hx:evl s x=.slice (some ⟨W.heap.size,0,none⟩) 1 1)
  (hl:cs.length=size) (h1:∀u∈cs,u.oneCell'=true) (h63:n+1≤maxLen) (hbytes:(n+1)*bytes≤140737488355328) (hbase:base≤W.heap.size)
  (h:∀g cap w',w'.ownsRow base e size (.slice (some ⟨g,0,none⟩) (n+1) cap) (n+1) (xs++cs)→W.grownBy w' v.ownBlock→(v.ownBlock=some g∨W.heap.size≤g) →
   WA P ops Q rest N (b3U d (.slice (some ⟨g,0,none⟩) (n+1) cap) s) w'):WA P ops Q (o::rest) N s (W.alloc (.cells cs.toArray e)):=
 ⟨fun a ha=>b2R W hg y x t ho base E v n xs (ha.known hky hy) hown cs (ha.known hkx hx) hl h1 h63 hbytes hbase fun g cap w' a1 a2 a3=>by
  rw[b1N hd];exact(h g cap w' a1 a2 a3).out _ (ha.put hd _)⟩
end
theorem c3a(n:Int):∃r,n.tmod 4294967296=r∧-4294967296<r∧r<4294967296∧((r < -2147483648∧wrap n=r+4294967296)∨(-2147483648≤r∧r≤2147483647∧wrap n=r)∨(2147483647<r∧wrap n=r-4294967296)):=by
 refine⟨_,rfl,?_⟩;unfold wrap;rcases Int.lt_or_le n 0 with h | h
 ·have e:n.tmod 4294967296=-((-n) % 4294967296):=by
   have:=Int.neg_tmod (-n) 4294967296;rw[Int.neg_neg] at this;rw[this,Int.tmod_eq_emod_of_nonneg (by omega)]
  rw[e];omega
 ·rw[Int.tmod_eq_emod_of_nonneg h];omega
theorem b4Y(n:Int)(w:World):Calls Try.prog 113 #[.int .i64 n] w fun r w'=>r=.returned (.int .i64 (wrap n))∧w=w':=by
 obtain⟨r,hr,h1,h2,h3⟩:=c3a n;have HR:=Lib.hid h3;generalize wrap n=T at *;go_enter Try.func113,Try.ntmps113;by_cases c0:r<0
 ·have d0:decide (r<0)=true:=decide_eq_true c0;by_cases c1:r+4294967296 > 2147483647
  ·have d1:decide (r+4294967296 > 2147483647)=true:=decide_eq_true c1;go_wp2;go_ret;exact⟨b7B (by have:=HR.out;omega),rfl⟩
  ·have d1:decide (r+4294967296 > 2147483647)=false:=decide_eq_false c1;go_wp2;go_ret;exact⟨b7B (by have:=HR.out;omega),rfl⟩
 ·have d0:decide (r<0)=false:=decide_eq_false c0;by_cases c1:r > 2147483647
  ·have d1:decide (r > 2147483647)=true:=decide_eq_true c1;go_wp2;go_ret;exact⟨b7B (by have:=HR.out;omega),rfl⟩
  ·have d1:decide (r > 2147483647)=false:=decide_eq_false c1;go_wp2;go_ret;exact⟨b7B (by have:=HR.out;omega),rfl⟩
theorem b7c(n:Int)(w:World):Calls Try.prog 49 #[.int .i64 n] w fun r w'=>r=.returned (.bool (decide (Num n)))∧w=w':=by
 have HN:Hid (decide (-2147483648≤n∧n≤2147483647)=decide (Num n)):=Lib.hid (by rw[Bool.eq_iff_iff,decide_eq_true_iff,decide_eq_true_iff];exact Iff.rfl);generalize decide (Num n)=T at *;go_enter Try.func49,Try.ntmps49;go_wp2_with fail
 refine(b1S _ _ _ _).mono ?_;rintro r w1 ⟨rfl,rfl⟩;rw[HN.out];go_wp2;go_ret;exact⟨rfl,rfl⟩
theorem c1o(k a b:Int)(w:World):Calls Try.prog 71 #[.int .i64 k,.int .i64 a,.int .i64 b] w fun r w'=>r=.returned (.tuple #[.int .i64 (opV k a b).1,.int .i64 (opV k a b).2])∧w=w':=by
 have HO:Hid (opV k a b=if k=4 then(wrap (a+b),0) else if k=5 then(wrap (a-b),0) else if k=6 then(wrap (a*b),0) else if k=7∨k=8 then(if b=0 then(0,2) else if k=7 then(wrap (a.tdiv b),0) else(wrap (a.tmod b),0)) else if(k=9∧a<b)∨(k=10∧a=b) then(1,0) else(0,0)):=Lib.hid rfl;generalize opV k a b=T at *;by_cases k4:k=4
 ·subst k4;have HR:Hid (T=(wrap (a+b),0)):=Lib.hid (by rw[HO.out,if_pos rfl]);clear HO;go_enter Try.func71,Try.ntmps71;go_wp2_with fail
  refine(b4Y _ _).mono ?_;rintro r w1 ⟨rfl,rfl⟩;go_wp2;go_ret2
  exact⟨by rw[HR.out];simp[wCC],rfl⟩
 by_cases k5:k=5
 ·subst k5;have HR:Hid (T=(wrap (a-b),0)):=Lib.hid (by rw[HO.out,if_neg (by decide),if_pos rfl]);clear HO;go_enter Try.func71,Try.ntmps71;go_wp2_with fail
  refine(b4Y _ _).mono ?_;rintro r w1 ⟨rfl,rfl⟩;go_wp2;go_ret2
  exact⟨by rw[HR.out];simp[wCC],rfl⟩
 by_cases k6:k=6
 ·subst k6;have HR:Hid (T=(wrap (a*b),0)):=Lib.hid (by rw[HO.out,if_neg (by decide),if_neg (by decide),if_pos rfl]);clear HO;go_enter Try.func71,Try.ntmps71;go_wp2_with fail
  refine(b4Y _ _).mono ?_;rintro r w1 ⟨rfl,rfl⟩;go_wp2;go_ret2
  exact⟨by rw[HR.out];simp[wCC],rfl⟩
 have e4:(k==4)=false:=by simpa using k4
 have e5:(k==5)=false:=by simpa using k5
 have e6:(k==6)=false:=by simpa using k6
 by_cases k7:k=7
 ·subst k7;by_cases hb:b=0
  ·subst hb;have HR:Hid (T=(0,2)):=Lib.hid (by rw[HO.out,if_neg (by decide),if_neg (by decide),if_neg (by decide),if_pos (Or.inl rfl),if_pos rfl]);clear HO;go_enter Try.func71,Try.ntmps71;go_wp2;go_ret2
   exact⟨by rw[HR.out];rfl,rfl⟩
  have eb:(b==0)=false:=by simpa using hb
  have HR:Hid (T=(wrap (a.tdiv b),0)):=Lib.hid (by rw[HO.out,if_neg (by decide),if_neg (by decide),if_neg (by decide),if_pos (Or.inl rfl),if_neg hb,if_pos rfl]);clear HO;go_enter Try.func71,Try.ntmps71;go_wp2_with fail
  refine(b4Y _ _).mono ?_;rintro r w1 ⟨rfl,rfl⟩;go_wp2;go_ret2
  exact⟨by rw[HR.out];simp[wCC],rfl⟩
 by_cases k8:k=8
 ·subst k8;by_cases hb:b=0
  ·subst hb;have HR:Hid (T=(0,2)):=Lib.hid (by rw[HO.out,if_neg (by decide),if_neg (by decide),if_neg (by decide),if_pos (Or.inr rfl),if_pos rfl]);clear HO;go_enter Try.func71,Try.ntmps71;go_wp2;go_ret2
   exact⟨by rw[HR.out];rfl,rfl⟩
  have eb:(b==0)=false:=by simpa using hb
  have HR:Hid (T=(wrap (a.tmod b),0)):=Lib.hid (by rw[HO.out,if_neg (by decide),if_neg (by decide),if_neg (by decide),if_pos (Or.inr rfl),if_neg hb,if_neg (by decide)]);clear HO;go_enter Try.func71,Try.ntmps71;go_wp2_with fail
  refine(b4Y _ _).mono ?_;rintro r w1 ⟨rfl,rfl⟩;go_wp2;go_ret2
  exact⟨by rw[HR.out];simp[],rfl⟩
 have e7:(k==7)=false:=by simpa using k7
 have e8:(k==8)=false:=by simpa using k8
 replace HO:Hid (T=if(k=9∧a<b)∨(k=10∧a=b) then(1,0) else(0,0)):=Lib.hid (by rw[HO.out,if_neg k4,if_neg k5,if_neg k6,if_neg (by omega)]);clear k4 k5 k6 k7 k8;by_cases k9:k=9
 ·subst k9;by_cases hd:a<b
  ·have dd:decide (a<b)=true:=decide_eq_true hd;have HR:Hid (T=(1,0)):=Lib.hid (by rw[HO.out,if_pos (Or.inl ⟨rfl,hd⟩)]);clear HO;go_enter Try.func71,Try.ntmps71;go_wp2;go_ret2
   exact⟨by rw[HR.out];rfl,rfl⟩
  ·have dd:decide (a<b)=false:=decide_eq_false hd;have HR:Hid (T=(0,0)):=Lib.hid (by rw[HO.out,if_neg (by omega)]);clear HO;go_enter Try.func71,Try.ntmps71;go_wp2;go_ret2
   exact⟨by rw[HR.out];rfl,rfl⟩
 have e9:(k==9)=false:=by simpa using k9
 by_cases k10:k=10
 ·subst k10;by_cases hd:a=b
  ·have dd:(a==b)=true:=by simpa using hd
   have HR:Hid (T=(1,0)):=Lib.hid (by rw[HO.out,if_pos (Or.inr ⟨rfl,hd⟩)]);clear HO hd;go_enter Try.func71,Try.ntmps71;go_wp2;go_ret2
   exact⟨by rw[HR.out];rfl,rfl⟩
  ·have dd:(a==b)=false:=by simpa using hd
   have HR:Hid (T=(0,0)):=Lib.hid (by rw[HO.out,if_neg (by omega)]);clear HO;go_enter Try.func71,Try.ntmps71;go_wp2;go_ret2
   exact⟨by rw[HR.out];rfl,rfl⟩
 have e10:(k==10)=false:=by simpa using k10
 have HR:Hid (T=(0,0)):=Lib.hid (by rw[HO.out,if_neg (by omega)]);clear HO;go_enter Try.func71,Try.ntmps71;go_wp2;go_ret2
 exact⟨by rw[HR.out];rfl,rfl⟩
end Go.Proofs.Ytgkpplbomciehaa
