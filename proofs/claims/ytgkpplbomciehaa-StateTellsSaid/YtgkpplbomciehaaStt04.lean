/- The memory of a run: what stays, variables, frames, the runner. Each lemma states its own conditions. -/
import Derived.Test.YtgkpplbomciehaaStt03
import Derived.Test.YtgkpplbomciehaaChecked
import Derived.Deep.RegionHeld3
namespace Go.Proofs.Ytgkpplbomciehaa
set_option maxRecDepth 20000
open Go.RowKit
abbrev EVT:TypeId:=63
abbrev INT:TypeId:=3
abbrev b4b:TypeId:=23
structure Kept(ts:List TypeId)(B lo:Nat)(w w':World):Prop where
 os:w'.os=w.os
 tape:w'.tape=w.tape
 output:w'.output=w.output
 size:w.heap.size≤w'.heap.size
 low:∀k,k<B→w'.heap[k]? = w.heap[k]?
 mid:∀k c t z,k<lo→t ∉ ts→w.heap[k]? = some (.cells c t z)→w'.heap[k]? = some (.cells c t z)
section
variable {ts:List TypeId}{B lo:Nat}{w w':World}
theorem Kept.rfl_(ts:List TypeId)(B lo:Nat)(w:World):Kept ts B lo w w:=⟨rfl,rfl,rfl,Nat.le_refl _,fun _ _=>rfl,fun _ _ _ _ _ _ h=>h⟩
theorem Kept.tr{a b c:World}(h:Kept ts B lo a b)(g:Kept ts B lo b c):Kept ts B lo a c:=
 ⟨g.os.trans h.os,g.tape.trans h.tape,g.output.trans h.output,Nat.le_trans h.size g.size,fun k hk=>(g.low k hk).trans (h.low k hk),fun k c t z hk ht ho=>g.mid k c t z hk ht (h.mid k c t z hk ht ho)⟩
theorem Kept.mono{lo':Nat}(h:Kept ts B lo w w')(hl:lo'≤lo):Kept ts B lo' w w':=
 ⟨h.os,h.tape,h.output,h.size,h.low,fun k c t z hk=>h.mid k c t z (Nat.lt_of_lt_of_le hk hl)⟩
theorem Kept.bel(h:Bel w w')(hB:B≤w.heap.size):Kept ts B lo w w':=
 ⟨h.os,h.tape,h.output,h.size,fun k hk=>h.block k (by omega),fun k c t z _ _ ho=>(h.block k (Array.getElem?_eq_some_iff.1 ho).1).trans ho⟩
theorem Kept.set_ty{k:Nat}{t:TypeId}{cs:Array Value}(hb:Blk w k t cs)(hB:B≤k)(ht:t∈ts)(i:Nat)(u:Value):Kept ts B lo w (w.setCell ⟨k,i,none⟩ u):=
 ⟨rfl,rfl,rfl,by simp,fun j hj=>heap_setCell_other w ⟨k,i,none⟩ j u (by dsimp only;omega),fun j c t' z _ ht' ho=>by
  refine(heap_setCell_other w ⟨k,i,none⟩ j u ?_).trans ho;dsimp only;rintro rfl;unfold Blk at hb;rw[hb] at ho;injection ho with ho;injection ho with _ ho _;exact ht' (ho▸ht)⟩
theorem Kept.set_hi{k:Nat}(hB:B≤k)(hk:lo≤k)(i:Nat)(u:Value):Kept ts B lo w (w.setCell ⟨k,i,none⟩ u):=
 ⟨rfl,rfl,rfl,by simp,fun j hj=>heap_setCell_other w ⟨k,i,none⟩ j u (by dsimp only;omega),fun j c t z hj _ ho=>(heap_setCell_other w ⟨k,i,none⟩ j u (by dsimp only;omega)).trans ho⟩
theorem Kept.grown{t:TypeId}{size:Nat}{v:Value}{n:Nat}{xs:List Value}(ho:w.ownsRow B t size v n xs)(ht:t∈ts)(hg:w.grownBy w' v.ownBlock)(hB:B≤w.heap.size):Kept ts B lo w w':=by
 refine⟨hg.os,hg.tape,hg.output,hg.size,fun k hk=>hg.block k (by omega) fun he=>?_,fun k c t' z _ ht' hk=>(hg.block k (Array.getElem?_eq_some_iff.1 hk).1 fun he=>?_).trans hk⟩
 ·have:=(ho.lt k he.symm).1;omega
 ·rcases ho.2 with⟨rfl,_⟩ | ⟨g',cap,cur,rfl,_,hh,_⟩
  ·simp[Value.ownBlock] at he
  ·have:k=g':=by simpa[Value.ownBlock] using he
   subst this;rw[hk] at hh;injection hh with hh;injection hh with _ hh _;exact ht' (hh▸ht)
theorem Blk.kept{g:Nat}{t:TypeId}{cs:Array Value}(h:Blk w g t cs)(hk:Kept ts B lo w w')(hg:g<lo)(ht:t ∉ ts):Blk w' g t cs:=hk.mid g _ _ _ hg ht h
theorem b6v{base size n:Nat}{e:TypeId}{v:Value}{xs:List Value}(ho:w.ownsRow base e size v n xs)(hk:Kept ts B lo w w')(hv:∀g,v.ownBlock=some g→g<lo)(he:e ∉ ts):w'.ownsRow base e size v n xs:=by
 refine⟨ho.1,?_⟩;rcases ho.2 with hn | ⟨g,cap,cur,rfl,hbg,hgg,rest⟩
 ·exact .inl hn
 ·exact .inr ⟨g,cap,cur,rfl,hbg,Blk.kept hgg hk (hv g rfl) he,rest⟩
theorem c2Z{base size n:Nat}{e:TypeId}{v:Value}{xs:List Value}(ho:w.ownsRow base e size v n xs):∀g,v.ownBlock=some g→g<w.heap.size:=fun g hg=>(ho.lt g hg).2
theorem Blk.ne{g k:Nat}{t e:TypeId}{cs ds:Array Value}(h:Blk w g t cs)(h':Blk w k e ds)(ht:t≠e):g≠k:=by
 rintro rfl;unfold Blk at h h';rw[h] at h';injection h' with h';injection h' with _ h' _;exact ht h'
theorem Blk.aside{g k:Nat}{t e:TypeId}{cs ds:Array Value}(h:Blk w g t cs)(h':Blk w k e ds)(ht:t≠e)(i:Nat)(u:Value):Blk (w.setCell ⟨k,i,none⟩ u) g t cs:=
 (heap_setCell_other w ⟨k,i,none⟩ g u (h.ne h' ht)).trans h
theorem b1E{base size n:Nat}{e t:TypeId}{v:Value}{xs:List Value}(ho:w.ownsRow base e size v n xs){k:Nat}{cs:Array Value}(h':Blk w k t cs)(ht:e≠t)(i:Nat)(u:Value):(w.setCell ⟨k,i,none⟩ u).ownsRow base e size v n xs:=by
 refine⟨ho.1,?_⟩;rcases ho.2 with hn | ⟨g,cap,cur,rfl,hbg,hgg,rest⟩
 ·exact .inl hn
 ·exact .inr ⟨g,cap,cur,rfl,hbg,Blk.aside hgg h' ht i u,rest⟩
theorem b5j{base base' size size' n n':Nat}{e e':TypeId}{v v':Value}{xs xs':List Value}(ho:w.ownsRow base e size v n xs)(ho':w.ownsRow base' e' size' v' n' xs')(he:e≠e')(hg:w.grownBy w' v'.ownBlock):w'.ownsRow base e size v n xs:=by
 refine⟨ho.1,?_⟩;rcases ho.2 with hn | ⟨g,cap,cur,rfl,hbg,hgg,rest⟩
 ·exact .inl hn
 ·exact .inr ⟨g,cap,cur,rfl,hbg,Blk.grown hgg hg (Blk.ne_own hgg ho' fun h=>he h.symm),rest⟩
end
def b0w(l:List Int):Array Value:=(l.map (Value.int .i64)).toArray
def heads(gs:List Nat)(vs:List (List Int)):List Value:=List.zipWith (fun g l=>.slice (some ⟨g,0,none⟩) l.length l.length) gs vs
structure VarsG(w:World)(lo:Nat)(v:Value)(vs:List (List Int))(gs:List Nat):Prop where
 row:w.ownsRow lo b4b 1 v vs.length (heads gs vs)
 len:gs.length=vs.length
 nd:gs.Nodup
 blk:∀(i g:Nat) (l:List Int),gs[i]? = some g→vs[i]? = some l→lo≤g∧l.length≤maxLen∧Blk w g INT (b0w l)
def b3V(w:World)(lo:Nat)(v:Value)(vs:List (List Int)):Prop:=∃gs,VarsG w lo v vs gs
theorem b6m{gs:List Nat}{vs:List (List Int)}{i g:Nat}{l:List Int}(hg:gs[i]? = some g)(hl:vs[i]? = some l):(heads gs vs)[i]? = some (.slice (some ⟨g,0,none⟩) l.length l.length):=by
 unfold heads;rw[List.getElem?_zipWith,hg,hl]
section
variable {w w':World}{lo:Nat}{v:Value}{vs:List (List Int)}{gs:List Nat}
theorem VarsG.get(h:VarsG w lo v vs gs){i:Nat}{l:List Int}(hl:vs[i]? = some l):∃g,gs[i]? = some g∧lo≤g∧l.length≤maxLen∧Blk w g INT (b0w l):=by
 have hi:i<gs.length:=by rw[h.len];exact(List.getElem?_eq_some_iff.1 hl).1
 exact⟨gs[i],List.getElem?_eq_getElem hi,h.blk i _ l (List.getElem?_eq_getElem hi) hl⟩
theorem b3V.nil(w:World)(lo:Nat):b3V w lo (.slice none 0 0) []:=⟨[],World.ownsRow_nil _ _ _ _,rfl,List.nodup_nil,fun i g l h=>by simp at h⟩
theorem VarsG.to{w':World}(h:VarsG w lo v vs gs)(hr:w'.ownsRow lo b4b 1 v vs.length (heads gs vs))(hb:∀g l,Blk w g INT (b0w l)→Blk w' g INT (b0w l)):VarsG w' lo v vs gs:=
 ⟨hr,h.len,h.nd,fun i g l hg hl=>⟨(h.blk i g l hg hl).1,(h.blk i g l hg hl).2.1,hb g l (h.blk i g l hg hl).2.2⟩⟩
theorem b3V.keep(h:b3V w lo v vs)(hb:Bel w w'):b3V w' lo v vs:=by
 obtain⟨gs,h⟩:=h;exact⟨gs,h.to (hb.own h.row) fun g l hg=>hg.keep hb⟩
theorem b3V.aside(h:b3V w lo v vs){k:Nat}{t:TypeId}{cs:Array Value}(hk:Blk w k t cs)(h1:b4b≠t)(h2:INT≠t)(i:Nat)(u:Value):b3V (w.setCell ⟨k,i,none⟩ u) lo v vs:=by
 obtain⟨gs,h⟩:=h;exact⟨gs,h.to (b1E h.row hk h1 i u) fun g l hg=>hg.aside hk h2 i u⟩
theorem b3V.kept(h:b3V w lo v vs){ts:List TypeId}{B hi:Nat}(hk:Kept ts B hi w w')(hh:w.heap.size≤hi)(h1:b4b ∉ ts)(h2:INT ∉ ts):b3V w' lo v vs:=by
 obtain⟨gs,h⟩:=h;exact⟨gs,h.to (b6v h.row hk (fun g hg=>Nat.lt_of_lt_of_le (c2Z h.row g hg) hh) h1) fun g l hb=>hb.kept hk (Nat.lt_of_lt_of_le hb.lt hh) h2⟩
theorem b3V.base(h:b3V w lo v vs){lo':Nat}(hl:lo'≤lo):b3V w lo' v vs:=by
 obtain⟨gs,h⟩:=h;have ho:=h.row;refine⟨gs,⟨ho.1,?_⟩,h.len,h.nd,fun i g l hg hx=>⟨by have:=(h.blk i g l hg hx).1;omega,(h.blk i g l hg hx).2⟩⟩;rcases ho.2 with hn | ⟨g,cap,cur,rfl,hbg,rest⟩
 ·exact .inl hn
 ·exact .inr ⟨g,cap,cur,rfl,by omega,rest⟩
theorem Sl.ints{w:World}{g:Nat}{l:List Int}(h:Blk w g INT (b0w l))(hm:l.length≤maxLen):Sl b2l w (.slice (some ⟨g,0,none⟩) l.length l.length) l:=by
 refine⟨_,_,rfl,Nat.le_refl _,⟨hm,fun h=>by cases h⟩,fun _=>⟨g,0,rfl,fun k x hx=>⟨[.int .i64 x],rfl,fun j u hu=>?_⟩⟩⟩;have hj:j=0:=by have:=(List.getElem?_eq_some_iff.1 hu).1;simp at this;exact this
 subst hj;simp only[List.getElem?_cons_zero,Option.some.injEq] at hu;subst hu;refine h.cell ?_;unfold b0w;simp[b2l,hx]
theorem b3V.sl(h:b3V w lo v vs):Sl b2l.slice w v vs:=by
 obtain⟨gs,h⟩:=h;refine Sl.own (r:=b2l.slice) h.row rfl fun k l hl=>?_;obtain⟨g,hg,-,hm,hb⟩:=h.get hl;refine⟨.slice (some ⟨g,0,none⟩) l.length l.length,?_,Sl.ints hb hm⟩;have hx:=b6m hg hl;obtain⟨hlt,he⟩:=List.getElem?_eq_some_iff.1 hx;show((heads gs vs).drop (k*1)).take 1=_;rw[Nat.mul_one,List.drop_eq_getElem_cons hlt,he];rfl
theorem VarsG.cell(h:VarsG w lo v vs gs){i:Nat}{l:List Int}(hl:vs[i]? = some l):∃b c g,v=.slice (some ⟨b,0,none⟩) vs.length c∧gs[i]? = some g∧w.cell? ⟨b,i,none⟩=some (.slice (some ⟨g,0,none⟩) l.length l.length)∧lo≤g∧Blk w g INT (b0w l):=by
 obtain⟨g,hg,hlo,-,hb⟩:=h.get hl;have hi:i<vs.length:=(List.getElem?_eq_some_iff.1 hl).1;rcases h.row.2 with⟨_,h0⟩ | ⟨b,cap,cur,rfl,_,hh,_,_,_,ht⟩
 ·omega
 ·refine⟨b,cap,g,rfl,hg,?_,hlo,hb⟩;have hb:Blk w b b4b cur:=hh;refine hb.cell ?_;have hx:=b6m hg hl;rw[←ht,List.getElem?_take] at hx;split at hx
  ·simpa using hx
  ·cases hx
theorem b7b(l:List Int)(j:Nat)(n:Int):(b0w l).setIfInBounds j (.int .i64 n)=b0w (l.set j n):=by
 unfold b0w;rw[List.setIfInBounds_toArray,List.map_set]
theorem c0V{gs:List Nat}{vs:List (List Int)}{i:Nat}{l l':List Int}(hl:vs[i]? = some l)(he:l'.length=l.length):heads gs (vs.set i l')=heads gs vs:=by
 unfold heads;apply List.ext_getElem?;intro k;rw[List.getElem?_zipWith,List.getElem?_zipWith,List.getElem?_set];by_cases hk:i=k
 ·subst hk;rw[if_pos rfl,if_pos (List.getElem?_eq_some_iff.1 hl).1,hl];cases gs[i]? with
  | none=>rfl
  | some g=>simp only[he]
 ·rw[if_neg hk]
theorem VarsG.set(h:VarsG w lo v vs gs){i j g:Nat}{l:List Int}(hl:vs[i]? = some l)(hg:gs[i]? = some g)(n:Int):VarsG (w.setCell ⟨g,j,none⟩ (.int .i64 n)) lo v (vs.set i (l.set j n)) gs:=by
 obtain⟨-,-,hb⟩:=h.blk i g l hg hl;refine⟨?_,by rw[List.length_set];exact h.len,h.nd,fun k g' l' hg' hl'=>?_⟩
 ·rw[List.length_set,c0V hl (List.length_set ..)];exact b1E h.row hb (by decide) j _
 ·rw[List.getElem?_set] at hl';split at hl'
  ·rename_i hk
   subst hk;have hi:i<vs.length:=(List.getElem?_eq_some_iff.1 hl).1;rw[if_pos hi] at hl';obtain rfl:=Option.some.inj hl';rw[hg] at hg';obtain rfl:=Option.some.inj hg';refine⟨(h.blk i g l hg hl).1,by rw[List.length_set];exact(h.blk i g l hg hl).2.1,?_⟩;rw[←b7b];exact hb.set_ j _
  ·rename_i hk
   obtain⟨h1,h2,h3⟩:=h.blk k g' l' hg' hl';refine⟨h1,h2,(heap_setCell_other w ⟨g,j,none⟩ g' _ ?_).trans h3⟩;dsimp only;rintro rfl;exact hk ((List.getElem?_inj (List.getElem?_eq_some_iff.1 hg).1 h.nd).1 (hg.trans hg'.symm))
theorem VarsG.push{g:Nat}{l:List Int}{v':Value}{w2:World}(h:VarsG w lo v vs gs)(hfresh:w.heap.size≤g)(hlo:lo≤g)(hm:l.length≤maxLen)(hb:Blk w2 g INT (b0w l))
  (hr:w2.ownsRow lo b4b 1 v' (vs.length+1) (heads gs vs++[.slice (some ⟨g,0,none⟩) l.length l.length])) (ho:∀k t cs,t≠b4b→Blk w k t cs→Blk w2 k t cs):VarsG w2 lo v' (vs++[l]) (gs++[g]):=by
 refine⟨?_,by rw[List.length_append,List.length_append,h.len];rfl,?_,fun i g' l' hg' hl'=>?_⟩
 ·rw[List.length_append]
  have:heads (gs++[g]) (vs++[l])=heads gs vs++[.slice (some ⟨g,0,none⟩) l.length l.length]:=by
   unfold heads;rw[List.zipWith_append h.len];rfl
  rw[this];exact hr
 ·refine List.nodup_append.2 ⟨h.nd,by simp,fun a ha b hb'=>?_⟩;obtain rfl:=List.mem_singleton.1 hb';rintro rfl;obtain⟨i,hi⟩:=List.getElem?_of_mem ha;have hl:i<vs.length:=by rw[←h.len];exact(List.getElem?_eq_some_iff.1 hi).1
  have:=(h.blk i a _ hi (List.getElem?_eq_getElem hl)).2.2.lt;omega
 ·rcases Nat.lt_or_ge i vs.length with hi | hi
  ·rw[List.getElem?_append_left (by rw[h.len];exact hi)] at hg';rw[List.getElem?_append_left hi] at hl';obtain⟨h1,h2,h3⟩:=h.blk i g' l' hg' hl';exact⟨h1,h2,ho _ _ _ (by decide) h3⟩
  ·rw[List.getElem?_append_right (by rw[h.len];exact hi)] at hg';rw[List.getElem?_append_right hi] at hl';rw[h.len] at hg';have h0:i-vs.length=0:=by have:=(List.getElem?_eq_some_iff.1 hl').1;simp at this;omega
   rw[h0] at hg' hl';simp at hg' hl';subst hg';subst hl';exact⟨hlo,hm,hb⟩
end
def FrM(w:World)(lo fb:Nat)(num at_:Int)(vs:List (List Int)):Prop:=lo≤fb∧∃v,Blk w fb 174 #[.int .i64 num,.int .i64 at_,v]∧b3V w lo v vs
def evC(l:List Ev):List Value:=l.flatMap Ev.cells
abbrev rts:List TypeId:=[EVT,171]
structure FS where
 l:List Int
 v:Value
def RnM(w0:World)(ps:List PF)(fuel:Int)(fs:FS)(L r:Nat)(w:World)(inp:List Int)(steps made deep:Int)(out:List Ev):Prop:=
 Below w0.heap.size w0 w∧w0.heap.size≤r∧r<L∧∃vp vin vf ve,Blk w r 171 #[vp,vin,.int .i64 fuel,.int .i64 steps,.int .i64 made,.int .i64 deep,vf,ve]∧Sl pfR w0 vp ps∧Sl b2l w0 vin inp ∧
  w.ownsRow w0.heap.size INT 1 vf fs.l.length (fs.l.map (Value.int .i64))∧((∀k,vf.ownBlock=some k→k<L)∧vf=fs.v)∧w.ownsRow w0.heap.size EVT 6 ve out.length (evC out)
section
variable {w w':World}{lo fb:Nat}{num at_:Int}{vs:List (List Int)}
theorem FrM.keep(h:FrM w lo fb num at_ vs)(hb:Bel w w'):FrM w' lo fb num at_ vs:=by
 obtain⟨h1,v,h2,h3⟩:=h;exact⟨h1,v,h2.keep hb,h3.keep hb⟩
theorem FrM.kept(h:FrM w lo fb num at_ vs){B hi:Nat}(hk:Kept rts B hi w w')(hh:w.heap.size≤hi):FrM w' lo fb num at_ vs:=by
 obtain⟨h1,v,h2,h3⟩:=h;exact⟨h1,v,h2.kept hk (Nat.lt_of_lt_of_le h2.lt hh) (by decide),h3.kept hk hh (by decide) (by decide)⟩
theorem FrM.set_r(h:FrM w lo fb num at_ vs){r:Nat}{cs:Array Value}(hr:Blk w r 171 cs)(i:Nat)(u:Value):FrM (w.setCell ⟨r,i,none⟩ u) lo fb num at_ vs:=by
 obtain⟨h1,v,h2,h3⟩:=h;exact⟨h1,v,h2.aside hr (by decide) i u,h3.aside hr (by decide) (by decide) i u⟩
theorem FrM.set_at(h:FrM w lo fb num at_ vs)(a:Int):FrM (w.setCell ⟨fb,1,none⟩ (.int .i64 a)) lo fb num a vs:=by
 obtain⟨h1,v,h2,h3⟩:=h;exact⟨h1,v,h2.set_ 1 _,h3.aside h2 (by decide) (by decide) 1 _⟩
end
theorem b1S(n a b:Int)(w:World):Calls Try.prog 48 #[.int .i64 n,.int .i64 a,.int .i64 b] w fun r w'=>r=.returned (.bool (decide (a≤n∧n≤b)))∧w=w':=by
 go_enter Try.func48,Try.ntmps48;go_wp2
 all_goals go_ret
 all_goals refine⟨b1L ?_,rfl⟩
 all_goals simp_all
 all_goals omega
theorem b9m(k n:Int)(args:List PE)(IH:∀x∈args,∀(m:Int) (val:Value) (W:World),0≤m→m≤15→PEV W x val →
   Calls Try.prog 110 #[val,.int .i64 m] W fun r w'=>r=.returned (.int .i64 (x.size m))∧Bel W w')
  (m:Int) (val:Value) (w:World) (h0:0≤m) (h15:m≤15) (h:PEV w (.mk k n args) val) :
  Calls Try.prog 110 #[val,.int .i64 m] w fun r w'=>r=.returned (.int .i64 ((PE.mk k n args).size m))∧Bel w w':=by
 obtain⟨v,rfl,A,c,rfl,hc,hm,hA⟩:=h;have HI:=Lib.hid IH;clear IH;have HA:=Lib.hid hA;clear hA;have HT:Hid (b2r args 1 m=(PE.mk k n args).size m):=Lib.hid (by rw[PE.size]);generalize(PE.mk k n args).size m=T at HT ⊢;have hlm:args.length≤9223372036854775807:=by have:=hm.1;simp only[maxLen] at this;simp only[PE.args] at hc;omega
 simp only[PE.kind,PE.n,PE.args] at HA hc ⊢;clear hm;go_enter Try.func110,Try.ntmps110;go_wp2;go_loopw [5,11] (fun a i wr=>∃(j:Nat) (x:Int),a=.int .i64 x∧i=.int .i64 j∧j≤args.length∧1≤x∧x≤m+1∧Hid (b2r (args.drop j) x m=T)∧Hid (Bel w wr)) (fun _ i _=>args.length-(intOf i).toNat)
 case atStart=>exact⟨0,1,rfl,rfl,by omega,by omega,by omega,by simpa using HT,(Bel.rfl_ w).al _⟩
 case round =>
  obtain⟨j,x,rfl,rfl,hj,hx1,hx2,HS,HB⟩:=hrel;clear HT;by_cases hlt:j<args.length
  ·obtain⟨q,hq⟩:∃e,args[j]? = some e:=⟨_,List.getElem?_eq_getElem hlt⟩;obtain⟨b,o,rfl,hA⟩:=HA.out (by omega);obtain⟨B,mm,cc,hs,y0,y1,y2⟩:=peR.cells hA hq;have y0:=HB.out.cell y0;have y1:=HB.out.cell y1;have y2:=HB.out.cell y2;have HQ:=Lib.hid hq;have HSL:=Lib.hid (hs.keep HB.out);clear hq hs hA HA;have HQV:Hid (∀W,Bel wr W→PEV W q (.agg #[.int .i64 q.kind,.int .i64 q.n,.slice B mm cc])):=Lib.hid fun W hb=>⟨_,rfl,HSL.out.keep hb⟩;generalize q.kind=qk at *;generalize q.n=qn at *;by_cases hmx:m<x
   ·have HR:Hid (x=T):=Lib.hid (by have:=HS.out;rw[b3t HQ.out,if_pos hmx] at this;exact this);go_wp2;go_ret;exact⟨by rw[HR.out];rfl,HB.out.al _⟩
   ·have HR:Hid (b2r (args.drop (j+1)) (x+q.size (m-x)) m=T):=Lib.hid (by have:=HS.out;rw[b3t HQ.out,if_neg hmx] at this;exact this);have hle:=PE.size_le q (m-x) (by omega);go_wp2_with fail
    refine(HI.out q (List.mem_of_getElem? HQ.out) (m-x) _ _ (by omega) (by omega) (HQV.out _ ((Bel.rfl_ _).al _))).mono ?_;rintro e w' ⟨rfl,hb⟩;have HB':=Lib.hid ((HB.out.al _).tr hb);clear hb;generalize q.size (m-x)=z at hle HR;go_wp2;go_roundw
    case rel=>exact⟨j+1,x+z,by go_num,by go_num,by omega,by omega,by omega,HR,HB'⟩
    case measure=>simp[intOf];omega
  ·have HR:Hid (x=T):=Lib.hid (by have:=HS.out;rw[b7o (by omega)] at this;exact this);go_wp2;go_ret;exact⟨by rw[HR.out];rfl,HB.out⟩
theorem c0x:∀(q:PE) (m:Int) (val:Value) (w:World),0≤m→m≤15→PEV w q val →
  Calls Try.prog 110 #[val,.int .i64 m] w fun r w'=>r=.returned (.int .i64 (q.size m))∧Bel w w':=
 PE.ind fun k n args ih m val w h0 h15 h=>b9m k n args ih m val w h0 h15 h
theorem b8O(k n:Int)(args:List PE)(IH:∀x∈args,∀(m:Int) (val:Value) (W:World),0≤m→m≤15→PEV W x val →
   Calls Try.prog 105 #[val,.int .i64 m] W fun r w'=>r=.returned (.int .i64 (x.size m))∧Bel W w')
  (m:Int) (val:Value) (w:World) (h0:0≤m) (h15:m≤15) (h:PEV w (.mk k n args) val) :
  Calls Try.prog 105 #[val,.int .i64 m] w fun r w'=>r=.returned (.int .i64 ((PE.mk k n args).size m))∧Bel w w':=by
 obtain⟨v,rfl,A,c,rfl,hc,hm,hA⟩:=h;have HI:=Lib.hid IH;clear IH;have HA:=Lib.hid hA;clear hA;have HT:Hid (b2r args 1 m=(PE.mk k n args).size m):=Lib.hid (by rw[PE.size]);generalize(PE.mk k n args).size m=T at HT ⊢;have hlm:args.length≤9223372036854775807:=by have:=hm.1;simp only[maxLen] at this;simp only[PE.args] at hc;omega
 simp only[PE.kind,PE.n,PE.args] at HA hc ⊢;clear hm;go_enter Try.func105,Try.ntmps105;go_wp2;go_loopw [5,6] (fun a i wr=>∃(j:Nat) (x:Int),a=.int .i64 x∧i=.int .i64 j∧j≤args.length∧1≤x∧x≤m+1∧Hid (b2r (args.drop j) x m=T)∧Hid (Bel (w.alloc (.cells #[.int .i64 k,.int .i64 n,.slice A args.length c] 47)) wr)) (fun _ i _=>args.length-(intOf i).toNat)
 case atStart=>exact⟨0,1,rfl,rfl,by omega,by omega,by omega,by simpa using HT,Bel.rfl_ _⟩
 case round =>
  obtain⟨j,x,rfl,rfl,hj,hx1,hx2,HS,HB⟩:=hrel;clear HT;have z2:wr.cell? ⟨w.heap.size,2,none⟩=some (.slice A args.length c):=((Blk.new w 47 #[.int .i64 k,.int .i64 n,.slice A args.length c]).keep HB.out).cell rfl;have HB1:=Lib.hid (((Bel.rfl_ w).al _).tr HB.out);by_cases hlt:j<args.length
  ·obtain⟨q,hq⟩:∃e,args[j]? = some e:=⟨_,List.getElem?_eq_getElem hlt⟩;obtain⟨b,o,rfl,hA⟩:=HA.out (by omega);obtain⟨B,mm,cc,hs,y0,y1,y2⟩:=peR.cells hA hq;have y0:=HB1.out.cell y0;have y1:=HB1.out.cell y1;have y2:=HB1.out.cell y2;have HQ:=Lib.hid hq;have HSL:=Lib.hid (hs.keep HB1.out);clear hq hs hA HA;have HQV:Hid (∀W,Bel wr W→PEV W q (.agg #[.int .i64 q.kind,.int .i64 q.n,.slice B mm cc])):=Lib.hid fun W hb=>⟨_,rfl,HSL.out.keep hb⟩;generalize q.kind=qk at *;generalize q.n=qn at *;by_cases hmx:m<x
   ·have HR:Hid (x=T):=Lib.hid (by have:=HS.out;rw[b3t HQ.out,if_pos hmx] at this;exact this);go_wp2;go_ret;exact⟨by rw[HR.out];rfl,HB1.out⟩
   ·have HR:Hid (b2r (args.drop (j+1)) (x+q.size (m-x)) m=T):=Lib.hid (by have:=HS.out;rw[b3t HQ.out,if_neg hmx] at this;exact this);have hle:=PE.size_le q (m-x) (by omega);have hxm:x≤m:=by omega
    go_wp2_with fail
    refine(HI.out q (List.mem_of_getElem? HQ.out) (m-x) _ _ (by omega) (by omega) (HQV.out _ (Bel.rfl_ _))).mono ?_;rintro e w' ⟨rfl,hb⟩;have HB':=Lib.hid (HB.out.tr hb);clear hb;generalize q.size (m-x)=z at hle HR;go_wp2;go_roundw
    case rel=>exact⟨j+1,x+z,by go_num,by go_num,by omega,by omega,by omega,HR,HB'⟩
    case measure=>simp[intOf];omega
  ·have HR:Hid (x=T):=Lib.hid (by have:=HS.out;rw[b7o (by omega)] at this;exact this);go_wp2;go_ret;exact⟨by rw[HR.out];rfl,HB1.out⟩
theorem b9d:∀(q:PE) (m:Int) (val:Value) (w:World),0≤m→m≤15→PEV w q val →
  Calls Try.prog 105 #[val,.int .i64 m] w fun r w'=>r=.returned (.int .i64 (q.size m))∧Bel w w':=
 PE.ind fun k n args ih m val w h0 h15 h=>b8O k n args ih m val w h0 h15 h
section
variable {P:Program}{ops:Array Oper}{Q:Exit→Act→World→Prop}{md:Region.Mode}{S:World→Prop}{fuel:Nat}{listed:Array Bool}{a:Act}{w:World}
theorem c3P{i:Nat}{o:Oper}{v:Value}(hi:ops[i]? = some o)(hs:Region.noSelect ops=true)(hf:Region.free md ops listed i=true)(hr:(Region.ready md ops listed).contains i=true)
  (hQ:∀c a w,Q (.panic c) (a.put o.dst v) w→Q (.panic c) a w) (hw:Region.wanted o (yielded ops a.tmps)=true) (hS:S w) (hrun:∀W,S W→(execOp a.eval o).run P W=.ok (.value v) W)
  (h:wpAnyH P md ops Q S fuel (listed.setIfInBounds i true) (a.put o.dst v) w):wpAnyH P md ops Q S (fuel+1) listed a w:=
 wpAnyH_take hi hs hf hr hQ (Or.inl ⟨hw,hrun⟩) hS h
theorem c3O{i:Nat}{o:Oper}(hi:ops[i]? = some o)(hs:Region.noSelect ops=true)(hf:Region.free md ops listed i=true)(hr:(Region.ready md ops listed).contains i=true)
  (hQ:∀c a w,Q (.panic c) (a.put o.dst undef) w→Q (.panic c) a w) (hw:Region.wanted o (yielded ops a.tmps)=false) (hS:S w)
  (h:wpAnyH P md ops Q S fuel (listed.setIfInBounds i true) (a.put o.dst undef) w):wpAnyH P md ops Q S (fuel+1) listed a w:=
 wpAnyH_take hi hs hf hr hQ (Or.inr ⟨hw,rfl⟩) hS h
theorem c3N{i:Nat}{o:Oper}(hr:Region.ready md ops listed=[i])(hi:ops[i]? = some o)(hw:Region.wanted o (yielded ops a.tmps)=true)(f:FuncId)(args:Array Value)(hrun:(execOp a.eval o).run P w=.ok (.enter f args) w){R:Ending→World→Prop}(hc:Calls P f args w R)
  (h:∀e w',R e w'→∃v,e=.returned v∧S w'∧(S w'→wpAnyH P md ops Q S fuel (listed.setIfInBounds i true) (a.put o.dst v) w')):wpAnyH P md ops Q S (fuel+1) listed a w:=by
 refine wpAnyH_ready hr (by simp) (AllReadyH.cons hi (fun K hK=>?_) AllReadyH.nil);rw[if_pos hw];unfold Oper.wp;rw[hrun,Oper.upon_enter];refine hc.mono fun e w' hh=>?_;obtain⟨v,rfl,hS,hW⟩:=h e w' hh;exact hK.out _ _ hS hW
theorem c4E{i:Nat}{o:Oper}(hr:Region.ready md ops listed=[i])(hi:ops[i]? = some o)(hw:Region.wanted o (yielded ops a.tmps)=true)(v:Value)(w':World)(hrun:(execOp a.eval o).run P w=.ok (.value v) w')(hS:S w')
  (h:S w'→wpAnyH P md ops Q S fuel (listed.setIfInBounds i true) (a.put o.dst v) w'):wpAnyH P md ops Q S (fuel+1) listed a w:=by
 refine wpAnyH_ready hr (by simp) (AllReadyH.cons hi (fun K hK=>?_) AllReadyH.nil);rw[if_pos hw];unfold Oper.wp;rw[hrun,Oper.upon_value];exact hK.out _ _ hS h
theorem c0t{i:Nat}(d:Option Tmp){o:Oper}(v:Value)(hi:ops[i]? = some o)(hd:o.dst=d)(hs:Region.noSelect ops=true)(hf:Region.free md ops listed i=true)(hr:(Region.ready md ops listed).contains i=true)
  (hQ:∀c a w,Q (.panic c) (a.put d v) w→Q (.panic c) a w) (hw:Region.wanted o (yielded ops a.tmps)=true) (hS:S w) (hrun:∀W,S W→(execOp a.eval o).run P W=.ok (.value v) W)
  (h:wpAnyH P md ops Q S fuel (listed.setIfInBounds i true) (a.put d v) w):wpAnyH P md ops Q S (fuel+1) listed a w:=by
 subst hd;exact c3P hi hs hf hr hQ hw hS hrun h
theorem b0A{i:Nat}(d:Option Tmp){o:Oper}(v:Value)(hi:ops[i]? = some o)(hS:S w)(hrun:∀W,S W→(execOp a.eval o).run P W=.ok (.value v) W)(h:wpAnyH P md ops Q S fuel (listed.setIfInBounds i true) (a.put d v) w)(hd:o.dst=d:=by rfl)(hs:Region.noSelect ops=true:=by kernel_rfl)(hf:Region.free md ops listed i=true:=by kernel_rfl)(hr:(Region.ready md ops listed).contains i=true:=by kernel_rfl)(hQ:∀c a w,Q (.panic c) (a.put d v) w→Q (.panic c) a w:=by exact fun _ _ _ h=>h)(hw:Region.wanted o (yielded ops a.tmps)=true:=by kernel_rfl):wpAnyH P md ops Q S (fuel+1) listed a w:=c0t d v hi hd hs hf hr hQ hw hS hrun h
theorem c0s{i:Nat}(d:Option Tmp){o:Oper}(hi:ops[i]? = some o)(hd:o.dst=d)(hs:Region.noSelect ops=true)(hf:Region.free md ops listed i=true)(hr:(Region.ready md ops listed).contains i=true)
  (hQ:∀c a w,Q (.panic c) (a.put d undef) w→Q (.panic c) a w) (hw:Region.wanted o (yielded ops a.tmps)=false) (hS:S w)
  (h:wpAnyH P md ops Q S fuel (listed.setIfInBounds i true) (a.put d undef) w):wpAnyH P md ops Q S (fuel+1) listed a w:=by
 subst hd;exact c3O hi hs hf hr hQ hw hS h
theorem b0W{i:Nat}(d:Option Tmp){o:Oper}(hi:ops[i]? = some o)(hS:S w)(h:wpAnyH P md ops Q S fuel (listed.setIfInBounds i true) (a.put d undef) w)(hd:o.dst=d:=by rfl)(hs:Region.noSelect ops=true:=by kernel_rfl)(hf:Region.free md ops listed i=true:=by kernel_rfl)(hr:(Region.ready md ops listed).contains i=true:=by kernel_rfl)(hQ:∀c a w,Q (.panic c) (a.put d undef) w→Q (.panic c) a w:=by exact fun _ _ _ h=>h)(hw:Region.wanted o (yielded ops a.tmps)=false:=by kernel_rfl):wpAnyH P md ops Q S (fuel+1) listed a w:=c0s d hi hd hs hf hr hQ hw hS h
theorem c0q{i:Nat}(d:Option Tmp){o:Oper}(hr:Region.ready md ops listed=[i])(hi:ops[i]? = some o)(hd:o.dst=d)(hw:Region.wanted o (yielded ops a.tmps)=true)(f:FuncId)(args:Array Value)(hrun:(execOp a.eval o).run P w=.ok (.enter f args) w){R:Ending→World→Prop}(hc:Calls P f args w R)
  (h:∀e w',R e w'→∃v,e=.returned v∧S w'∧(S w'→wpAnyH P md ops Q S fuel (listed.setIfInBounds i true) (a.put d v) w')):wpAnyH P md ops Q S (fuel+1) listed a w:=by
 subst hd;exact c3N hr hi hw f args hrun hc h
theorem b0v{i:Nat}(d:Option Tmp){o:Oper}(hi:ops[i]? = some o)(f:FuncId)(args:Array Value){R:Ending→World→Prop}(hc:Calls P f args w R)(h:∀e w',R e w'→∃v,e=.returned v∧S w'∧(S w'→wpAnyH P md ops Q S fuel (listed.setIfInBounds i true) (a.put d v) w'))(hr:Region.ready md ops listed=[i]:=by kernel_rfl)(hd:o.dst=d:=by rfl)(hw:Region.wanted o (yielded ops a.tmps)=true:=by kernel_rfl)(hrun:(execOp a.eval o).run P w=.ok (.enter f args) w:=by kernel_rfl):wpAnyH P md ops Q S (fuel+1) listed a w:=c0q d hr hi hd hw f args hrun hc h
theorem c0r{i:Nat}(d:Option Tmp){o:Oper}(hr:Region.ready md ops listed=[i])(hi:ops[i]? = some o)(hd:o.dst=d)(hw:Region.wanted o (yielded ops a.tmps)=true)(v:Value)(w':World)(hrun:(execOp a.eval o).run P w=.ok (.value v) w')(hS:S w')
  (h:S w'→wpAnyH P md ops Q S fuel (listed.setIfInBounds i true) (a.put d v) w'):wpAnyH P md ops Q S (fuel+1) listed a w:=by
 subst hd;exact c4E hr hi hw v w' hrun hS h
end
section
variable {P:Program}{ops:Array Oper}{Q:Exit→Act→World→Prop}{rest:List Oper}{o:Oper}{a:Act}{w:World}
theorem c4V(d:Option Tmp)(v:Value)(hd:o.dst=d)(hw:Region.wanted o (yielded ops a.tmps)=true)(hrun:(execOp a.eval o).run P w=.ok (.value v) w)(h:wpList P ops Q rest (a.put d v) w):wpList P ops Q (o::rest) a w:=
 wpList_step fun K hK=>by
  subst hd;rw[if_pos hw];unfold Oper.wp;rw[hrun,Oper.upon_value];exact hK _ _ h
theorem c0W(d:Option Tmp)(hd:o.dst=d)(hw:Region.wanted o (yielded ops a.tmps)=true)(f:FuncId)(args:Array Value)(hrun:(execOp a.eval o).run P w=.ok (.enter f args) w){R:Ending→World→Prop}(hc:Calls P f args w R)
  (h:∀e w',R e w'→∃v,e=.returned v∧wpList P ops Q rest (a.put d v) w'):wpList P ops Q (o::rest) a w:=
 wpList_step fun K hK=>by
  subst hd;rw[if_pos hw];unfold Oper.wp;rw[hrun,Oper.upon_enter];refine hc.mono fun e w' hh=>?_;obtain⟨v,rfl,hW⟩:=h e w' hh;exact hK _ _ hW
end
theorem rt_s{P:Program}{ops:Array Oper}{Q:Exit→Act→World→Prop}{md:Region.Mode}{S:World→Prop}{fuel:Nat}{listed:Array Bool}{a:Act}{w:World}(i:Nat)(d:Option Tmp){o:Oper}(hS:S w)(h:wpAnyH P md ops Q S fuel (listed.setIfInBounds i true) (a.put d undef) w)(hi:ops[i]? = some o:=by rfl)(hd:o.dst=d:=by rfl)(hs:Region.noSelect ops=true:=by kernel_rfl)(hf:Region.free md ops listed i=true:=by kernel_rfl)(hr:(Region.ready md ops listed).contains i=true:=by kernel_rfl)
    (hQ:∀c a w,Q (.panic c) (a.put d undef) w→Q (.panic c) a w:=by exact fun _ _ _ h=>h) (hw:Region.wanted o (yielded ops a.tmps)=false:=by kernel_rfl):wpAnyH P md ops Q S (fuel+1) listed a w:=
  c0s d hi hd hs hf hr hQ hw hS h
end Go.Proofs.Ytgkpplbomciehaa
