/- Tasks put onto the document's machine. Each lemma states its own conditions. -/
import Derived.Test.YtgkpplbomciehaaStt28
import Derived.Test.YtgkpplbomciehaaStt29
namespace Go.Proofs.Ytgkpplbomciehaa
open Go.RowKit
section
variable {w0 W W':World}{ps:List PF}{fuel:Int}{inp:List Int}{q:Nat}{m:Mc}{vp vin vout:Value}{taken:Nat}{f:Fr}{fs:List Fr}{x:FrX}{xs:List FrX}{gf cap tb':Nat}{cur:Array Value}{T:List Tk}{vt':Value}
theorem FrmsM.pushed(h:FrmsM w0 W (.slice (some ⟨gf,0,none⟩) (fs.length+1) cap) (f::fs) (x::xs))(hb:Blk W gf FRT cur)(hP:PushD w0 W W' gf (fs.length*5) cur T x.tb vt' tb') :
  FrmsM w0 W' (.slice (some ⟨gf,0,none⟩) (fs.length+1) cap) ({ f with tasks:=T }::fs) ({ x with vt:=vt',tb:=tb' }::xs):=by
 have hl:(frC fs xs).length=fs.length*5:=b4D (by simpa using h.len);obtain⟨tc,htc⟩:=(h.at_ 0 f x rfl rfl).tasks.has;have hk:∀k t cs,t≠FRT→t≠TKT→Blk W k t cs→Blk W' k t cs:=fun k t cs h1 h2 hB=>hP.rest k t cs (hB.ne hb h1) (hB.ne htc h2) hB;refine⟨?_,by simpa using h.len,fun i f2 x2 hf hx=>?_,?_,?_⟩
 ·have h1:=b3q h.row (fs.length*5+4) vt';rw[frC,List.set_append,if_neg (by omega),hl,show fs.length*5+4-fs.length*5=4 by omega] at h1;refine b2K h1 fun k cs hkk hB=>?_;have hkg:k=gf:=(Option.some.inj hkk).symm;subst hkg;have h2:=hb.set_ (fs.length*5+4) vt';unfold Blk at h2 hB;rw[h2] at hB;injection hB with hB;injection hB with hB _ _;subst hB;exact hP.blk
 ·cases i with
  | zero =>
   obtain rfl:_=f2:=by simpa using hf
   obtain rfl:_=x2:=by simpa using hx
   have hD:=h.at_ 0 f x rfl rfl;exact⟨hD.vars.to (b2K hD.vars.row fun k cs _ hB=>hk _ _ _ (by decide) (by decide) hB) fun g l hB=>hk _ _ _ (by decide) (by decide) hB,hP.tasks⟩
  | succ i =>
   have hf2:fs[i]? = some f2:=by simpa using hf
   have hx2:xs[i]? = some x2:=by simpa using hx
   have hD:=h.at_ (i+1) f2 x2 (by simpa using hf2) (by simpa using hx2)
   have hne:x2.tb≠x.tb:=fun he=>by
    have:=h.td;rw[List.map_cons,List.nodup_cons] at this;exact this.1 (List.mem_map.2 ⟨x2,List.mem_of_getElem? hx2,he⟩)
   exact⟨hD.vars.to (b2K hD.vars.row fun k cs _ hB=>hk _ _ _ (by decide) (by decide) hB) fun g l hB=>hk _ _ _ (by decide) (by decide) hB,hD.tasks.by_ fun cs hB=>hP.rest _ _ _ (hB.ne hb (by decide)) hne hB⟩
 ·have:=h.nd;rw[List.flatMap_cons] at this ⊢;exact this
 ·have:=h.td;rw[List.map_cons,List.nodup_cons] at this ⊢;refine⟨fun hm=>?_,this.2⟩;obtain⟨y,hy,hye⟩:=List.mem_map.1 hm;rcases hP.new with hn | hn
  ·exact this.1 (List.mem_map.2 ⟨y,hy,by rw[hye];exact hn⟩)
  ·have:=h.tb_lt y (List.mem_cons_of_mem _ hy);dsimp only at hye;omega
theorem MacD.pushed(h:MacD w0 ps fuel inp q W m vp vin (.slice (some ⟨gf,0,none⟩) (fs.length+1) cap) vout taken (x::xs))(hf:m.frames=f::fs)(hb:Blk W gf FRT cur)(hP:PushD w0 W W' gf (fs.length*5) cur T x.tb vt' tb') :
  MacD w0 ps fuel inp q W' { m with frames:={ f with tasks:=T }::fs } vp vin (.slice (some ⟨gf,0,none⟩) (fs.length+1) cap) vout taken ({ x with vt:=vt',tb:=tb' }::xs):=by
 have hF:=h.frs;rw[hf] at hF;obtain⟨tc,htc⟩:=(hF.at_ 0 f x rfl rfl).tasks.has;have hk:∀k t cs,t≠FRT→t≠TKT→Blk W k t cs→Blk W' k t cs:=fun k t cs h1 h2 hB=>hP.rest k t cs (hB.ne hb h1) (hB.ne htc h2) hB;exact⟨hP.low,h.lo,hk _ _ _ (by decide) (by decide) h.blk,h.prog,h.ins,h.inp,h.tk,b2K h.out fun k cs _ hB=>hk _ _ _ (by decide) (by decide) hB,hF.pushed hb hP⟩
end
theorem TasksT.next_{w0 W:World}{g n cap:Nat}{t:Tk}{ts:List Tk}{tb:Nat}(h:TasksT w0 W (.slice (some ⟨g,0,none⟩) n cap) (t::ts) tb):∃c12,PCR w0 t.pc c12∧b1D W g (ts.length*15) (c12++[.int .i64 t.no,.bool false,.bool t.isB]):=by
 obtain⟨⟨cells,ho,hT⟩,hb⟩:=h;obtain⟨g2,c2,cur,he,-,hB,hc⟩:=b4F ho (by simp);injection he with he _ _;injection he with he;injection he with he;subst he;obtain⟨c12,h1,h2⟩:=hT ts.length t (by rw[List.reverse_cons,List.getElem?_append_right (by simp)];simp);refine⟨c12,h1,?_⟩;have:=c0k (b:=ts.length*15) (hc W hB);rw[h2] at this;exact this
theorem b9D{x:PC}{w0:World}{cs:List Value}(h:PCR w0 x cs)(n:Int)(b:Bool):∀u∈cs++[.int .i64 n,.bool false,.bool b],u.oneCell'=true:=fun u hu=>by
 rcases List.mem_append.1 hu with hu | hu
 ·exact b4i h u hu
 ·simp at hu;rcases hu with rfl | rfl | rfl<;>rfl
end Go.Proofs.Ytgkpplbomciehaa
