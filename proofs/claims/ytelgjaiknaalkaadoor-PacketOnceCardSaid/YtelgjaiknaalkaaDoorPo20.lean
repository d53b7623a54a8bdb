/- Lemmas, joined and made smaller by a program. -/
import Derived.Test.YtelgjaiknaalkaaDoorPo19
import Derived.Lib.SliceRun
import Derived.Deep.RegionLaw
import Derived.Lib.Walk
import Derived.Test.YtelgjaiknaalkaaDoorPo08
open Go.Lib renaming hid → qq
set_option linter.unusedVariables false
set_option linter.unusedSimpArgs false
namespace Go.Proofs.YtelgjaiknaalkaaDoor
open Go.RowKit
def lineAt(es:List EM)(i j:Nat):Option LineM:=(es[i]?).bind fun e=>e.ls[j]?
def lastLeaf(es:List EM):Nat:=match es[es.length-1]? with
 |none=>0
 |some e=>e.leaf
def lastLine(es:List EM):Option LineM:=lineAt es (es.length-1) (lastLeaf es)
def setLine(es:List EM)(i j:Nat)(l:LineM):List EM:=match es[i]? with
 |none=>es
 |some e=>es.set i ⟨e.no,e.leaf,e.ls.set j l⟩
def BX.turn(b:BX)(i:Nat)(e:EP)(xs:List LP):BX:=⟨b.grp,b.v,b.es.set i ⟨e.gC,e.gl,xs,e.no,e.leaf⟩,b.clr⟩
section
variable{w w':World}{base gB:Nat}{b:BX}
theorem m_es_nil{b:BX}:b.m.es=[]↔b.es=[]:=by unfold BX.m;simp
theorem bx_line{i j:Nat}(hi:i<b.es.length)(hj:j<b.es[i].xs.length):lineAt b.m.es i j=some b.es[i].xs[j].l:=by
 unfold lineAt BX.m
 simp only[List.getElem?_map,List.getElem?_eq_getElem hi,Option.map_some,Option.bind_some,EP.m,List.getElem?_eq_getElem hj]
theorem bx_lastLeaf{n:Nat}(hn:b.es.length=n+1):lastLeaf b.m.es=(b.es[n]'(by omega)).leaf:=by
 unfold lastLeaf BX.m
 simp only[List.length_map,hn,Nat.add_sub_cancel,List.getElem?_map,List.getElem?_eq_getElem (show n<b.es.length by omega),Option.map_some,EP.m]
theorem bx_lastLine{n:Nat}(hn:b.es.length=n+1)(hl:(b.es[n]'(by omega)).leaf<(b.es[n]'(by omega)).xs.length):lastLine b.m.es=some ((b.es[n]'(by omega)).xs[(b.es[n]'(by omega)).leaf]).l:=by
 unfold lastLine
 rw[bx_lastLeaf hn,show b.m.es.length-1=n by unfold BX.m;simp[hn]]
 exact bx_line (by omega) hl
theorem bx_turn{i j:Nat}(hi:i<b.es.length)(y:LP):(b.turn i b.es[i] (b.es[i].xs.set j y)).m=⟨b.m.grp,setLine b.m.es i j y.l,b.m.clr⟩:=by
 unfold BX.turn BX.m setLine
 simp only[List.getElem?_map,List.getElem?_eq_getElem hi,Option.map_some,EP.m,List.map_set]
theorem turn_cells{es:List EP}{i:Nat}{e:EP}(hi:i<es.length)(he:e.cells=es[i].cells):(es.set i e).flatMap EP.cells=es.flatMap EP.cells:=by
 have h1:(es.set i e).map EP.cells=es.map EP.cells:=by
  rw[List.map_set,he]
  have:(es[i]).cells=(es.map EP.cells)[i]'(by rw[List.length_map];exact hi):=by rw[List.getElem_map]
  rw[this,List.set_getElem_self]
 rw[List.flatMap_def,List.flatMap_def,h1]
theorem BoxAt.turn_{S:List Nat}(h:BoxAt w base gB b){i:Nat}(hi:i<b.es.length)(F:Frm w w' S)(hS:∀k∈S,k∈b.es[i].foot){xs:List LP}(hlen:xs.length=b.es[i].xs.length)
 (hc:ChAt w' b.es[i].gC b.es[i].gl xs)(hf:∀k∈chFoot b.es[i].gC b.es[i].gl xs,k∈b.es[i].foot∨w.heap.size≤k):
 BoxAt w' base gB (b.turn i b.es[i] xs)∧∀k∈BX.foot gB (b.turn i b.es[i] xs),k∈BX.foot gB b∨w.heap.size≤k:=by
 obtain⟨e',he'⟩:∃e':EP,e'=⟨b.es[i].gC,b.es[i].gl,xs,b.es[i].no,b.es[i].leaf⟩:=⟨_,rfl⟩
 have hfe:e'.foot=chFoot b.es[i].gC b.es[i].gl xs:=by rw[he'];rfl
 have hcell:e'.cells=b.es[i].cells:=by rw[he'];rfl
 have hnd:=h.nd
 have hlt:∀z∈b.efoot,z<w.heap.size:=fun z hz=>(h.foot_lt z (by simp only[BX.foot,List.mem_cons,List.mem_append];exact .inr (.inr hz))).2
 have es:b.es.set i e'=b.es.take i++e'::b.es.drop (i+1):=List.set_eq_take_append_cons_drop .. |>.trans (if_pos hi)
 have e0:b.es=b.es.take i++b.es[i]::b.es.drop (i+1):=by rw[←List.drop_eq_getElem_cons hi,List.take_append_drop]
 have ef:b.efoot=(b.es.take i).flatMap EP.foot++(b.es[i].foot++(b.es.drop (i+1)).flatMap EP.foot):=by
  unfold BX.efoot
  conv=>lhs;rw[e0]
  rw[List.flatMap_append,List.flatMap_cons]
 have ef':(b.es.set i e').flatMap EP.foot=(b.es.take i).flatMap EP.foot++(e'.foot++(b.es.drop (i+1)).flatMap EP.foot):=by rw[es,List.flatMap_append,List.flatMap_cons]
 have hb:b.turn i b.es[i] xs=⟨b.grp,b.v,b.es.set i e',b.clr⟩:=by rw[he'];rfl
 rw[ef]at hnd hlt
 have hnd':=nodup_put _ _ _ e'.foot _ hnd hlt (by rw[hfe];exact hc.foot_nd) (fun z hz=>hf z (by rw[←hfe];exact hz))
 have hbase:base≤w.heap.size:=Nat.le_of_lt (Nat.lt_of_le_of_lt h.low.1 h.gB_lt)
 have hSlt:∀k∈S,k<w.heap.size:=fun k hk=>(h.ch _ (List.getElem_mem hi)).foot_lt k (hS k hk)
 have hoth:∀(j:Nat) (hj:j<b.es.length),j≠i→∀k∈b.es[j].foot,k∉S:=fun j hj hne k hk hm=>by
  have hki:=hS k hm
  obtain⟨a1,a2,a3⟩:=List.nodup_append.1 hnd
  obtain⟨b1,b2,b3⟩:=List.nodup_append.1 a2
  rcases Nat.lt_or_ge j i with hji|hji
  ·refine a3 k (List.mem_flatMap.2 ⟨b.es[j],?_,hk⟩) k (List.mem_append.2 (.inl hki)) rfl
   rw[List.mem_take_iff_getElem]
   exact⟨j,by omega,rfl⟩
  ·refine b3 k hki k (List.mem_flatMap.2 ⟨b.es[j],?_,hk⟩) rfl
   rw[List.mem_drop_iff_getElem]
   exact⟨j-(i+1),by omega,by congr 1;omega⟩
 have hbS:∀{cs:Array Value} {T:TypeId} {g:Nat},w.heap[g]?=some (.cells cs T (0,0))→T≠68→T≠77→T≠5→g∉S:=
  fun h1 h2 h3 h4 hm=>h.gB_out (List.getElem_mem hi) h1 h2 h3 h4 (hS _ hm)
 rw[hb]
 refine⟨⟨?_,h.glen,?_,?_,?_,?_,?_,?_,⟨h.low.1,?_⟩⟩,?_⟩
 ·exact(F.block gB h.gB_lt (hbS h.blk (by decide) (by decide) (by decide))).trans h.blk
 ·show w'.ownsRow base _ 3 b.v (b.es.set i e').length ((b.es.set i e').flatMap EP.cells)
  rw[List.length_set,turn_cells hi hcell]
  refine row_same h.row (fun g hg=>?_)
  obtain⟨-,h2,cs,h3⟩:=row_in h.row hg
  exact F.block g h2 (hbS h3 (by decide) (by decide) (by decide))
 ·intro e he
  obtain⟨j,hj,rfl⟩:=List.getElem_of_mem he
  have hj':j<b.es.length:=by rw[List.length_set]at hj;exact hj
  by_cases hji:j=i
  ·subst hji
   rw[List.getElem_set_self]
   rw[he'];exact hc
  ·rw[List.getElem_set_ne (fun e=>hji e.symm)]
   exact(h.ch _ (List.getElem_mem hj')).of_same (fun k hk=>F.block k ((h.ch _ (List.getElem_mem hj')).foot_lt k hk) (hoth j hj' hji k hk))
 ·intro e he
  rcases List.mem_or_eq_of_mem_set he with h1|rfl
  ·exact h.bnd e h1
  ·have hb:=h.bnd _ (List.getElem_mem hi)
   rw[he']
   refine⟨?_,?_,hb.2.2⟩
   ·show b.es[i].leaf<xs.length
    rw[hlen];exact hb.1
   ·show xs.length≤32
    rw[hlen];exact hb.2.1
 ·have hr:=h.rise
  rw[List.pairwise_iff_getElem]at hr ⊢
  intro j k hj hk hjk
  rw[List.length_set]at hj hk
  have hn:∀(m:Nat) (hm:m<b.es.length),((b.es.set i e')[m]'(by rw[List.length_set];exact hm)).no=b.es[m].no:=fun m hm=>by
   by_cases hmi:m=i
   ·subst hmi;rw[List.getElem_set_self,he']
   ·rw[List.getElem_set_ne (fun e=>hmi e.symm)]
  rw[hn j hj,hn k hk]
  exact hr j k hj hk hjk
 ·show(b.es.set i e').length≤5
  rw[List.length_set];exact h.many
 ·show((b.es.set i e').flatMap EP.foot).Nodup
  rw[ef'];exact hnd'
 ·intro k hk
  have hk':k∈ (b.es.set i e').flatMap EP.foot:=hk
  rw[ef']at hk'
  rcases List.mem_append.1 hk' with h1|h1
  ·exact h.low.2 k (by rw[ef];exact List.mem_append.2 (.inl h1))
  rcases List.mem_append.1 h1 with h1|h1
  ·rcases hf k (by rw[←hfe];exact h1)with h2|h2
   ·exact h.low.2 k (by rw[ef];exact List.mem_append.2 (.inr (List.mem_append.2 (.inl h2))))
   ·omega
  ·exact h.low.2 k (by rw[ef];exact List.mem_append.2 (.inr (List.mem_append.2 (.inr h1))))
 ·intro k hk
  have hk':k=gB∨k∈b.v.ownBlock.toList∨k∈ (b.es.set i e').flatMap EP.foot:=by
   have h1:k∈gB::(b.v.ownBlock.toList++(b.es.set i e').flatMap EP.foot):=hk
   simpa only[List.mem_cons,List.mem_append]using h1
  unfold BX.foot
  simp only[List.mem_cons,List.mem_append]
  rcases hk' with h1|h1|h1
  ·exact .inl (.inl h1)
  ·exact .inl (.inr (.inl h1))
  ·rw[ef']at h1
   rw[ef]
   simp only[List.mem_append]at h1 ⊢
   rcases h1 with h1|h1|h1
   ·exact .inl (.inr (.inr (.inl h1)))
   ·rcases hf k (by rw[←hfe];exact h1)with h2|h2
    ·exact .inl (.inr (.inr (.inr (.inl h2))))
    ·exact .inr h2
   ·exact .inl (.inr (.inr (.inr (.inr h1))))
end
set_option maxRecDepth 100000
theorem drewN_below{w w1:World}{q:Nat}(h:w1=w.drewN q):Below w.heap.size w w1:=by rw[h];exact below_drewN (Below.refl _ w) q
end Go.Proofs.YtelgjaiknaalkaaDoor
namespace Go.Proofs.YtelgjaiknaalkaaDoor
open Go.RowKit
set_option maxRecDepth 100000
def zeroEp:List Value:=[.pointer none,.int .i64 0,.int .i64 0]
theorem run_zeroEp(w:World):(zeroValue 49).run Tryd.prog w= .ok (.agg zeroEp.toArray) w:=by kernel_rfl
theorem infoEpoch:(Tryd.prog.info? 49).map (fun i=>(i.zero,i.size,i.bytes))=some (some (.agg zeroEp.toArray),3,24):=by kernel_rfl
theorem run_clear_ep{w:World}{g:Nat}{pre old post:List Value}(hb:Blk w g 49 (pre++(old++post)))(hl:old.length=3)(ty:TypeId)(c:Nat):
 (Builtin.clear_ #[43] ty #[.slice (some ⟨g,pre.length,none⟩) 1 c]).run Tryd.prog w= .ok (.tuple #[]) (w.setCells g pre.length zeroEp):=by
 have hst:=run_storeCells_cells (P:=Tryd.prog) g pre.length zeroEp 0 w (fun j hj=>by
  have hj3:j<3:=hj
  have:(pre++(old++post))[pre.length+j]?=some (old[j]'(by omega)):=by
   rw[List.getElem?_append_right (by omega),Nat.add_sub_cancel_left,List.getElem?_append_left (by omega)];simp
  rw[Nat.add_zero,hb.cell _ this];rfl) (fun j hj=>by rw[Nat.add_zero];exact hb.frozen _) (by decide)
 simp only[Nat.add_zero]at hst
 have hz:(Builtin.zeroCells (Value.agg #[.pointer none,.int .i64 0,.int .i64 0]).cells 1).toList=zeroEp:=by kernel_rfl
 simp[Builtin.clear_,run_underlying Tryd.underlying43,run_zeroEp,hz,hst]
set_option maxHeartbeats 1000000 in
theorem delete_any{w:World}{base g c:Nat}{us:List Value}(h:w.ownsRow base 49 3 (.slice (some ⟨g,0,none⟩) 5 c) 5 us)(h1:∀u∈us,u.oneCell'=true):
 Calls Tryd.prog 12 #[.slice (some ⟨g,0,none⟩) 5 c,.int .i64 0,.int .i64 1] w fun e w'=>e= .returned (.slice (some ⟨g,0,none⟩) 4 c)∧
  w'.ownsRow base 49 3 (.slice (some ⟨g,0,none⟩) 4 c) 4 (us.drop 3)∧w.grownBy w' (some g):=by
 obtain⟨i0,hi0,hz0,hs0,hb0⟩:=info_parts infoEpoch
 have hul:us.length=15:=h.1
 have hc5:5≤c∧c≤maxLen:=by
  rcases h.2 with⟨e,-⟩|⟨g',cap,cur,e,-,-,h2,h3,-⟩
  ·cases e
  ·injection e with e1 e2 e3;subst e3;exact⟨h2,h3⟩
 obtain⟨spare,hB,hbase⟩:=row_blk h
 have hsp:(us++spare).length=c*3:=by
  rcases h.2 with⟨e,-⟩|⟨g',cap,cur,e,-,hg,-,-,hcs,-⟩
  ·cases e
  ·injection e with e1 e2 e3
   injection e1 with e1;injection e1 with e1
   subst e1;subst e3
   have hB':w.heap[g]?=some (.cells (us++spare).toArray 49 (0,0)):=hB
   rw[hB']at hg;injection hg with hg;injection hg with hg
   rw[←hcs,←hg];simp
 obtain⟨a,m,z,e3,hal,hml,hzl⟩:∃a m z:List Value,us=a++(m++z)∧a.length=3∧m.length=9∧z.length=3:=
  ⟨us.take 3,(us.drop 3).take 9,us.drop 12,by rw[show us.drop 12=(us.drop 3).drop 9 by rw[List.drop_drop],List.take_append_drop,List.take_append_drop],by simp[hul],by simp[hul],by simp[hul]⟩
 have hd:us.drop 3=m++z:=by rw[e3,←hal,List.drop_left]
 rw[hd]
 obtain⟨W1,hW1⟩:∃W1,W1=w.drew.setCells g (0+0*3) (m++z):=⟨_,rfl⟩
 have hw1:=blk_setCells (g:=g) (T:=49) (m++z) [] (a++m) (z++spare) w.drew (by simp[hal,hml,hzl]) ((show Blk w.drew g _ (us++spare)from hB).cast (by rw[e3];simp))
 have eW:w.drew.setCells g ([]:List Value).length (m++z)=W1:=by rw[hW1];rfl
 rw[eW]at hw1
 obtain⟨W2,hW2⟩:∃W2,W2=W1.setCells g 12 zeroEp:=⟨_,rfl⟩
 have hw2:=blk_setCells (g:=g) (T:=49) zeroEp (m++z) z spare W1 (by rw[hzl];rfl) (hw1.1.cast (by simp))
 have hpl:(m++z).length=12:=by simp[hml,hzl]
 rw[hpl,←hW2]at hw2
 have hcl:∀ty c',(Builtin.clear_ #[43] ty #[.slice (some ⟨g,12,none⟩) 1 c']).run Tryd.prog W1= .ok (.tuple #[]) W2:=fun ty c'=>by
  have h2:=run_clear_ep (hw1.1.cast (show[]++((m++z)++(z++spare))=(m++z)++(z++spare) by simp)) hzl ty c'
  rw[hpl,←hW2]at h2
  exact h2
 have s1:=qq (show(m++z).length=4*3 by rw[hpl])
 have s2:=qq (show∀u∈m++z,u.oneCell'=true from fun u hu=>h1 u (by rw[e3];exact List.mem_append.2 (.inr hu)))
 have s3:=qq (show∀j,j<(m++z).length→(w.drew.cell? ⟨g,0+0*3+j,none⟩).isSome=true∧w.drew.frozen? ⟨g,0+0*3+j,none⟩=false from fun j hj=>by
  have hjl:j<us.length:=by rw[hpl]at hj;omega
  have hcell:=(show Blk w.drew g _ (us++spare)from hB).cell j (u:=us[j]) (by rw[List.getElem?_append_left hjl];simp)
  rw[show 0+0*3+j=j by omega]
  exact⟨by rw[hcell];rfl,(show Blk w.drew g _ (us++spare)from hB).frozen j⟩)
 have s4:=qq (show∀j u,(m++z)[j]?=some u→w.drew.cell? ((⟨g,3,none⟩:Addr).add j)=some u from fun j u hu=>by
  rw[Addr.add_lit]
  refine(show Blk w.drew g _ (us++spare)from hB).cell _ ?_
  have hj:=(List.getElem?_eq_some_iff.1 hu).1
  rw[List.getElem?_append_left (by rw[hpl]at hj;omega),e3,List.getElem?_append_right (by omega),hal,Nat.add_sub_cancel_left]
  exact hu)
 have HW1:=qq hW1
 have HW2:=qq hw2
 have HG1:=qq hw1.2
 have HSp:=qq hsp
 have HU:=qq (show us.length=15 from hul)
 have Hpl:=qq hpl
 have Hd:=qq e3
 have hc0:¬(c=1):=by omega
 have hc1:1≤c:=by omega
 have hc2:5≤c:=hc5.1
 have hc3:(5:Int)≤(c:Int):=by omega
 have hc4:¬(c=4):=by omega
 have Hcm:=qq hc5.2
 have Hbase:=qq hbase
 clear h h1 hul hc5 hB hsp e3 hd hW1 hw1 eW hW2 hw2 hpl hal hml hzl hbase
 go_enter Tryd.func12,Tryd.ntmps12
 go_wp2_with fail
 go_region_law (refine step_append_room rfl (.tmp 22) (.tmp 25) 43 rfl 49 i0 3 Tryd.underlying43 hi0 hs0 g 0 0 c (by simp[Act.eval,Act.put]) ⟨g,3,none⟩ 4 (c-1) (m++z) (by simp[Act.eval,Act.put]) s1.out s4.out s2.out (by omega) s3.out ?_;rw[←HW1.out])
 go_wp2_with fail
 go_ret
 refine⟨rfl,⟨Hpl.out,.inr ⟨g,c,_,rfl,Hbase.out,HW2.out.1,by omega,Hcm.out,?_,?_⟩⟩,grownBy_trans (show w.grownBy W1 (some g)from⟨HG1.out.os,HG1.out.tape,HG1.out.output,HG1.out.size,HG1.out.block⟩) HW2.out.2 (fun _ e=> .inl e)⟩
 ·have h5:=HSp.out
  have h6:=HU.out
  have h7:=Hpl.out
  rw[List.length_append]at h5
  simp only[List.size_toArray,List.length_append]at h7 ⊢
  show m.length+z.length+(zeroEp.length+spare.length)=c*3
  rw[show zeroEp.length=3 from rfl]
  omega
 ·show((m++z)++(zeroEp++spare)).take (4*3)=m++z
  rw[List.take_left' Hpl.out]
end Go.Proofs.YtelgjaiknaalkaaDoor
namespace Go.Proofs.YtelgjaiknaalkaaDoor
open Go.RowKit
section
variable{w w':World}{base gB:Nat}{b:BX}
theorem BoxAt.row_ne(h:BoxAt w base gB b):b.v.ownBlock≠some gB:=fun e=>by
 obtain⟨-,-,cs,h1⟩:=row_in h.row e
 have h2:w.heap[gB]?=some (.cells b.cells.toArray 45 (0,0)):=h.blk
 rw[h2]at h1;injection h1 with h1;injection h1 with _ hT _;exact absurd hT (by decide)
theorem BoxAt.gB_notin(h:BoxAt w base gB b):∀e∈b.es,gB∉e.foot:=fun e he=>h.gB_out he h.blk (by decide) (by decide) (by decide)
theorem BoxAt.row_notin(h:BoxAt w base gB b){g:Nat}(hg:b.v.ownBlock=some g):∀e∈b.es,g∉e.foot:=fun e he=>by
 obtain⟨-,-,cs,h1⟩:=row_in h.row hg
 exact h.gB_out he h1 (by decide) (by decide) (by decide)
theorem BoxAt.regroup(h:BoxAt w base gB b)(grp:List (BitVec 8))(hl:grp.length=32)(hk:Blk w' gB 45 (BX.cells ⟨grp,b.v,b.es,b.clr⟩))(hg:w.grownBy w' (some gB)):BoxAt w' base gB ⟨grp,b.v,b.es,b.clr⟩:=by
 refine⟨hk,hl,row_same h.row (fun g e=>hg.block g (row_in h.row e).2.1 (fun e2=>h.row_ne (by rw[e,e2]))),fun e he=>(h.ch e he).of_same (fun k hk'=>hg.block k ((h.ch e he).foot_lt k hk') (fun e2=>?_)),h.bnd,h.rise,h.many,h.nd,h.low⟩
 injection e2 with e2
 exact h.gB_notin e he (by rw[←e2];exact hk')
theorem BoxAt.pushed(h:BoxAt w base gB b){w6:World}(hm:b.es.length≤4)(e:EP)(N:Nat)(hc:ChAt w e.gC e.gl e.xs)(hnew:∀k∈e.foot,N≤k)(hold:∀k∈BX.foot gB b,k<N)(hN:N≤w.heap.size)
 (hbnd:e.leaf<e.xs.length∧e.xs.length≤32∧0≤e.no∧e.no≤4294967295)(hlast:∀x∈b.es,x.no<e.no){v':Value}(hrow:w6.ownsRow base 49 3 v' (b.es.length+1) (b.es.flatMap EP.cells++e.cells))(hg:Grew w w6 b.v v'):
 BoxAt (w6.setCell ⟨gB,32,none⟩ v') base gB ⟨b.grp,v',b.es++ [e],b.clr⟩∧Frm w (w6.setCell ⟨gB,32,none⟩ v') (BX.foot gB b)∧∀k∈BX.foot gB ⟨b.grp,v',b.es++ [e],b.clr⟩,k∈BX.foot gB b∨N≤k:=by
 have hby:=hg.by_
 have h6:w.heap.size≤w6.heap.size:=hby.size
 have hbase:base≤N:=by have:=hold gB (by simp[BX.foot]);have:=h.low.1;omega
 have hgs:=grownBy_set w6 gB 32 v'
 have hB6:Blk w6 gB 45 b.cells:=h.blk.grown hby (fun e=>h.row_ne e.symm)
 have hset:b.cells.set 32 v'=BX.cells ⟨b.grp,v',b.es++ [e],b.clr⟩:=by
  unfold BX.cells
  rw[List.set_append,if_neg (by simp[h.glen])]
  simp[h.glen]
 have hef:BX.efoot ⟨b.grp,v',b.es++ [e],b.clr⟩=b.efoot++e.foot:=by unfold BX.efoot;rw[List.flatMap_append];simp
 have hv':∀g,v'.ownBlock=some g→(b.v.ownBlock=some g∨N≤g):=fun g hgv=>by
  rcases hg.at_ with h1|h1
  ·exact .inl (by rw[←h1];exact hgv)
  ·rw[h1]at hgv;injection hgv with hgv;exact .inr (by omega)
 have hfar:∀x,x∈b.es∨x=e→∀k∈x.foot,(w6.setCell ⟨gB,32,none⟩ v').heap[k]?=w.heap[k]?:=fun x hx k hk=>by
  have hch:ChAt w x.gC x.gl x.xs:=by
   rcases hx with hx|rfl
   ·exact h.ch x hx
   ·exact hc
  have hlt:k<w.heap.size:=hch.foot_lt k hk
  have h1:some k≠some gB:=fun e2=>by
   injection e2 with e2
   exact hch.out (T:=45) (cs:=b.cells.toArray) h.blk (by decide) (by decide) (by decide) (by rw[←e2];exact hk)
  have h2:some k≠b.v.ownBlock:=fun e2=>by
   obtain⟨-,-,cs,h3⟩:=row_in h.row e2.symm
   exact hch.out h3 (by decide) (by decide) (by decide) hk
  exact(hgs.block k (by omega) h1).trans (hby.block k hlt h2)
 refine⟨⟨(hB6.set_ 32 v').cast hset,h.glen,?_,?_,?_,?_,?_,?_,⟨h.low.1,?_⟩⟩,?_,?_⟩
 ·show(w6.setCell ⟨gB,32,none⟩ v').ownsRow base _ 3 v' (b.es++ [e]).length ((b.es++ [e]).flatMap EP.cells)
  rw[List.length_append,List.flatMap_append,List.length_singleton,show[e].flatMap EP.cells=e.cells by simp]
  refine row_same hrow (fun g hgv=>hgs.block g (row_in hrow hgv).2.1 (fun e2=>?_))
  injection e2 with e2
  obtain⟨-,-,cs,h3⟩:=row_in hrow hgv
  have h4:w6.heap[gB]?=some (.cells b.cells.toArray 45 (0,0)):=hB6
  rw[←e2,h3]at h4;injection h4 with h4;injection h4 with _ hT _;exact absurd hT (by decide)
 ·intro x hx
  rcases List.mem_append.1 hx with hx|hx
  ·exact(h.ch x hx).of_same (hfar x (.inl hx))
  ·rw[List.mem_singleton]at hx;subst hx
   exact hc.of_same (hfar x (.inr rfl))
 ·intro x hx
  rcases List.mem_append.1 hx with hx|hx
  ·exact h.bnd x hx
  ·rw[List.mem_singleton]at hx;subst hx;exact hbnd
 ·refine List.pairwise_append.2 ⟨h.rise,List.pairwise_singleton _ _,fun x hx y hy=>?_⟩
  rw[List.mem_singleton]at hy;subst hy
  exact hlast x hx
 ·show(b.es++ [e]).length≤5
  rw[List.length_append,List.length_singleton];omega
 ·rw[hef]
  refine List.nodup_append.2 ⟨h.nd,hc.foot_nd,fun x hx y hy e2=>?_⟩
  subst e2
  have h1:=hold x (by simp only[BX.foot,List.mem_cons,List.mem_append];exact .inr (.inr hx))
  have h2:=hnew x hy
  omega
 ·intro k hk
  rw[hef]at hk
  rcases List.mem_append.1 hk with hk|hk
  ·exact h.low.2 k hk
  ·have:=hnew k hk;omega
 ·refine⟨hgs.os.trans hby.os,hgs.tape.trans hby.tape,hgs.output.trans hby.output,Nat.le_trans hby.size hgs.size,fun k hk hn=>?_⟩
  have h1:some k≠some gB:=fun e2=>by injection e2 with e2;subst e2;exact hn (by simp[BX.foot])
  have h2:some k≠b.v.ownBlock:=fun e2=>hn (by simp[BX.foot,←e2])
  exact(hgs.block k (by omega) h1).trans (hby.block k hk h2)
 ·intro k hk
  simp only[BX.foot,List.mem_cons,List.mem_append,Option.mem_toList,hef]at hk ⊢
  rcases hk with hk|hk|hk|hk
  ·exact .inl (.inl hk)
  ·rcases hv' k hk with h1|h1
   ·exact .inl (.inr (.inl h1))
   ·exact .inr h1
  ·exact .inl (.inr (.inr hk))
  ·exact .inr (hnew k hk)
theorem BoxAt.deleted{g c:Nat}(h:BoxAt w base gB b)(hv:b.v= .slice (some ⟨g,0,none⟩) 5 c)(h5:b.es.length=5){w8:World}(hrow:w8.ownsRow base 49 3 (.slice (some ⟨g,0,none⟩) 4 c) 4 ((b.es.flatMap EP.cells).drop 3))(hg:w.grownBy w8 (some g)):
 BoxAt (w8.setCell ⟨gB,32,none⟩ (.slice (some ⟨g,0,none⟩) 4 c)) base gB ⟨b.grp,.slice (some ⟨g,0,none⟩) 4 c,b.es.tail,b.clr⟩∧Frm w (w8.setCell ⟨gB,32,none⟩ (.slice (some ⟨g,0,none⟩) 4 c)) (BX.foot gB b)∧
  ∀k∈BX.foot gB ⟨b.grp,.slice (some ⟨g,0,none⟩) 4 c,b.es.tail,b.clr⟩,k∈BX.foot gB b:=by
 obtain⟨e0,es,he⟩:∃e0 es,b.es=e0::es:=by
  cases hb:b.es with
  |nil=>rw[hb]at h5;cases h5
  |cons x r=>exact⟨x,r,rfl⟩
 have hvo:b.v.ownBlock=some g:=by rw[hv];rfl
 have hgb:g≠gB:=fun e=>h.row_ne (by rw[hvo,e])
 have hgs:=grownBy_set w8 gB 32 (.slice (some ⟨g,0,none⟩) 4 c)
 have hB8:Blk w8 gB 45 b.cells:=h.blk.grown hg (fun e=>hgb (by injection e with e;exact e.symm))
 have hset:b.cells.set 32 (.slice (some ⟨g,0,none⟩) 4 c)=BX.cells ⟨b.grp,.slice (some ⟨g,0,none⟩) 4 c,b.es.tail,b.clr⟩:=by
  unfold BX.cells
  rw[List.set_append,if_neg (by simp[h.glen])]
  simp[h.glen]
 have ht:b.es.tail=es:=by rw[he];rfl
 have hfe:b.efoot=e0.foot++es.flatMap EP.foot:=by unfold BX.efoot;rw[he,List.flatMap_cons]
 have hcd:(b.es.flatMap EP.cells).drop 3=es.flatMap EP.cells:=by rw[he,List.flatMap_cons,List.drop_left' e0.cells_len]
 have hl4:es.length=4:=by rw[he]at h5;simpa using h5
 rw[hcd]at hrow
 have hmem:∀x∈es,x∈b.es:=fun x hx=>by rw[he];exact List.mem_cons_of_mem _ hx
 have hs8:w.heap.size≤w8.heap.size:=hg.size
 rw[ht]at hset ⊢
 refine⟨⟨(hB8.set_ 32 _).cast hset,h.glen,?_,?_,fun x hx=>h.bnd x (hmem x hx),?_,?_,?_,⟨h.low.1,?_⟩⟩,?_,?_⟩
 ·show(w8.setCell ⟨gB,32,none⟩ _).ownsRow base _ 3 _ es.length (es.flatMap EP.cells)
  rw[hl4]
  refine row_same hrow (fun k hk=>hgs.block k (row_in hrow hk).2.1 (fun e2=>?_))
  injection e2 with e2
  injection hk with hk
  have hk':g=k:=hk
  exact hgb (by rw[hk',e2])
 ·intro x hx
  have c:=h.ch x (hmem x hx)
  refine c.of_same (fun k hk=>?_)
  have hlt:=c.foot_lt k hk
  have h1:some k≠some gB:=fun e2=>by injection e2 with e2;exact h.gB_notin x (hmem x hx) (by rw[←e2];exact hk)
  have h2:some k≠some g:=fun e2=>by injection e2 with e2;exact h.row_notin hvo x (hmem x hx) (by rw[←e2];exact hk)
  exact(hgs.block k (by omega) h1).trans (hg.block k hlt h2)
 ·have:=h.rise;rw[he]at this;exact(List.pairwise_cons.1 this).2
 ·show es.length≤5;omega
 ·have:=h.nd;rw[hfe]at this;exact(List.nodup_append.1 this).2.1
 ·intro k hk
  exact h.low.2 k (by rw[hfe];exact List.mem_append.2 (.inr hk))
 ·refine⟨hgs.os.trans hg.os,hgs.tape.trans hg.tape,hgs.output.trans hg.output,Nat.le_trans hg.size hgs.size,fun k hk hn=>?_⟩
  have h1:some k≠some gB:=fun e2=>by injection e2 with e2;subst e2;exact hn (by simp[BX.foot])
  have h2:some k≠some g:=fun e2=>hn (by injection e2 with e2;subst e2;simp[BX.foot,hvo])
  exact(hgs.block k (by omega) h1).trans (hg.block k hk h2)
 ·intro k hk
  simp only[BX.foot,List.mem_cons,List.mem_append,Option.mem_toList]at hk ⊢
  rcases hk with hk|hk|hk
  ·exact .inl hk
  ·exact .inr (.inl (by rw[hvo];exact hk))
  ·exact .inr (.inr (by rw[hfe];exact List.mem_append.2 (.inr hk)))
end
section
variable{P:Program}{ops:Array Oper}{md:Region.Mode}{Q:Exit→Act→World→Prop}{S:World→Prop}{z:Nat}
def wpAnyY(P:Program)(md:Region.Mode)(ops:Array Oper)(Q:Exit→Act→World→Prop)(S:World→Prop)(z:Nat):Nat→Array Bool→Act→World→Prop
 |0,L,a,w=>Region.ready md ops L=[]∧Q .normal a w
 |f+1,L,a,w=>(Region.ready md ops L=[]→Q .normal a w)∧∀i∈Region.ready md ops L,wpOp P ops Q i (fun a' w'=>(L.getD z true=false→i≠z→S w')∧wpAnyY P md ops Q S z f (L.setIfInBounds i true) a' w') a w
theorem wpAny_of_Y:∀(f:Nat) (L:Array Bool) (a:Act) (w:World),wpAnyY P md ops Q S z f L a w→wpAny P md ops Q f L a w
 |0,_,_,_,h=>h
 |f+1,_,_,_,h=>⟨h.1,fun i hi=>wpOp_mono (fun a' w' h'=>wpAny_of_Y f _ a' w' h'.2) (h.2 i hi)⟩
theorem not_waits{i:Nat}{oj:Oper}{L:Array Bool}(hr:i∈Region.ready md ops L)(hall:∀e∈oj.after,Region.binds md e=true→L.getD e.on false=true):∀e∈oj.after,Region.binds md e=true→e.on≠i:=fun e he hb heq=>by
 have g1:=hall e he hb
 have g0:=(mem_ready.1 hr).1
 rw[heq]at g1
 rcases Nat.lt_or_ge i L.size with h'|h'
 ·simp[h']at g0 g1;rw[g0]at g1;cases g1
 ·simp[Array.getElem?_eq_none h']at g1
theorem wpAnyY_first{i:Nat}{oi:Oper}{v:Value}(hi:ops[i]?=some oi)(hsel:Region.noSelect ops=true)(hw:waitsB md ops z i=true)(hQ:∀c a w,Q (.panic c) (a.put oi.dst v) w→Q (.panic c) a w):
 ∀(f:Nat) (L:Array Bool) (a:Act) (w:World),(∀j oj,ops[j]?=some oj→j≠i→L.getD j true=false→(∀e∈oj.after,Region.binds md e=true→e.on≠i)→oi.apart ops oj=true)→
  i∈Region.ready md ops L→YieldsIf P ops S oi v a→L.getD z true=false→S w→wpAnyY P md ops Q S z f (L.setIfInBounds i true) (a.put oi.dst v) w→wpAnyY P md ops Q S z (f+1) L a w:=by
 intro f
 induction f with
 |zero=>
  intro L a w _ hr hy hz hS H
  refine⟨fun h=>(by rw[h]at hr;cases hr),fun j hj=>?_⟩
  by_cases e:j=i
  ·subst e;exact hy.wpOp hi hS ⟨fun _ _=>hS,H⟩
  ·have:=ready_mono hj e
   rw[H.1]at this;cases this
 |succ f ih=>
  intro L a w hfree hr hy hz hS H
  refine⟨fun h=>(by rw[h]at hr;cases hr),fun j hj=>?_⟩
  by_cases e:j=i
  ·subst e;exact hy.wpOp hi hS ⟨fun _ _=>hS,H⟩
  ·have h1:=H.2 j (ready_mono hj e)
   obtain⟨hjun,oj,hoj,hall⟩:=mem_ready.1 hj
   have hnot:=not_waits hr hall
   have hjz:j≠z:=fun ez=>by
    subst ez
    unfold waitsB at hw
    rw[hoj]at hw
    obtain⟨x,hx,hxe⟩:=Array.any_eq_true'.1 hw
    simp only[Bool.and_eq_true,beq_iff_eq]at hxe
    exact hnot x hx hxe.1 hxe.2
   have hiz:i≠z:=fun ez=>by
    subst ez
    obtain⟨x,hx,hxe⟩:∃x,x∈oi.after∧(Region.binds md x=true∧x.on=i):=by
     unfold waitsB at hw
     rw[hi]at hw
     obtain⟨x,hx,hxe⟩:=Array.any_eq_true'.1 hw
     simp only[Bool.and_eq_true,beq_iff_eq]at hxe
     exact⟨x,hx,hxe⟩
    obtain⟨-,oi',hoi',hall'⟩:=mem_ready.1 hr
    rw[hi]at hoi';cases hoi'
    exact not_waits hr hall' x hx hxe.1 hxe.2
   have h2:=wpOp_putIf hoj (hfree j oj hoj e hjun hnot) (fun cs b=>Region.noSelect_spec hsel i oi cs b hi) (fun cs b=>Region.noSelect_spec hsel j oj cs b hoj) hQ hy h1
   refine wpOp_mono (fun a' w' h3=>?_) h2
   have hzi:(L.setIfInBounds i true).getD z true=false:=by rw[getD_set_ne true hiz];exact hz
   have hS':=h3.2.1 hzi hjz
   refine⟨fun _ _=>hS',ih _ a' w' (fun k ok hk hki hun hno=>hfree k ok hk hki ?_ hno) (ready_mono hr (Ne.symm e)) h3.1 (by rw[getD_set_ne true hjz];exact hz) hS' ?_⟩
   ·by_cases hjk:j=k
    ·subst hjk;exact hjun
    ·rw[getD_set_ne true hjk]at hun;exact hun
   ·rw[Array.setIfInBounds_comm _ _ e]
    exact h3.2.2
theorem wpAnyY_firstP{i:Nat}{oi:Oper}{v:Value}(hi:ops[i]?=some oi)(hsel:Region.noSelect ops=true)(hiz:i≠z)(hQ:∀c a w,Q (.panic c) (a.put oi.dst v) w→Q (.panic c) a w):
 ∀(f:Nat) (L:Array Bool) (a:Act) (w:World),(∀j oj,ops[j]?=some oj→j≠i→L.getD j true=false→(∀e∈oj.after,Region.binds md e=true→e.on≠i)→oi.apart ops oj=true)→
  i∈Region.ready md ops L→YieldsIf P ops (fun _=>True) oi v a→(L.getD z true=false→S w)→wpAnyY P md ops Q S z f (L.setIfInBounds i true) (a.put oi.dst v) w→wpAnyY P md ops Q S z (f+1) L a w:=by
 intro f
 induction f with
 |zero=>
  intro L a w _ hr hy hS H
  refine⟨fun h=>(by rw[h]at hr;cases hr),fun j hj=>?_⟩
  by_cases e:j=i
  ·subst e;exact hy.wpOp hi trivial ⟨fun hz _=>hS hz,H⟩
  ·have:=ready_mono hj e
   rw[H.1]at this;cases this
 |succ f ih=>
  intro L a w hfree hr hy hS H
  refine⟨fun h=>(by rw[h]at hr;cases hr),fun j hj=>?_⟩
  by_cases e:j=i
  ·subst e;exact hy.wpOp hi trivial ⟨fun hz _=>hS hz,H⟩
  ·have h1:=H.2 j (ready_mono hj e)
   obtain⟨hjun,oj,hoj,hall⟩:=mem_ready.1 hj
   have hnot:=not_waits hr hall
   have h2:=wpOp_putIf hoj (hfree j oj hoj e hjun hnot) (fun cs b=>Region.noSelect_spec hsel i oi cs b hi) (fun cs b=>Region.noSelect_spec hsel j oj cs b hoj) hQ hy h1
   refine wpOp_mono (fun a' w' h3=>?_) h2
   refine⟨fun hz hjz=>h3.2.1 (by rw[getD_set_ne true hiz];exact hz) hjz,ih _ a' w' (fun k ok hk hki hun hno=>hfree k ok hk hki ?_ hno) (ready_mono hr (Ne.symm e)) h3.1 (fun hz=>?_) ?_⟩
   ·by_cases hjk:j=k
    ·subst hjk;exact hjun
    ·rw[getD_set_ne true hjk]at hun;exact hun
   ·by_cases hjz:j=z
    ·subst hjz
     rcases Nat.lt_or_ge j L.size with h'|h'
     ·simp[h']at hz
     ·simp[Array.getElem?_eq_none h']at hz
    ·exact h3.2.1 (by rw[getD_set_ne true hiz];rw[getD_set_ne true hjz]at hz;exact hz) hjz
   ·rw[Array.setIfInBounds_comm _ _ e]
    exact h3.2.2
theorem wpAnyY_take{i:Nat}{oi:Oper}{v:Value}{f:Nat}{L:Array Bool}{a:Act}{w:World}(hi:ops[i]?=some oi)(hs:Region.noSelect ops=true)(hw:waitsB md ops z i=true)(hz:L.getD z true=false)(hf:Region.free md ops L i=true)(hr:(Region.ready md ops L).contains i=true)
 (hQ:∀c a w,Q (.panic c) (a.put oi.dst v) w→Q (.panic c) a w)(hy:YieldsIf P ops S oi v a)(hS:S w)(h:wpAnyY P md ops Q S z f (L.setIfInBounds i true) (a.put oi.dst v) w):wpAnyY P md ops Q S z (f+1) L a w:=
 wpAnyY_first hi hs hw hQ f L a w (Region.free_spec hi hf) (by simpa using hr) hy hz hS h
theorem wpAnyY_pure{i:Nat}{oi:Oper}{v:Value}{f:Nat}{L:Array Bool}{a:Act}{w:World}(hi:ops[i]?=some oi)(hs:Region.noSelect ops=true)(hiz:decide (i≠z)=true)(hf:Region.free md ops L i=true)(hr:(Region.ready md ops L).contains i=true)
 (hQ:∀c a w,Q (.panic c) (a.put oi.dst v) w→Q (.panic c) a w)(hy:YieldsIf P ops (fun _=>True) oi v a)(hS:S w)(h:wpAnyY P md ops Q S z f (L.setIfInBounds i true) (a.put oi.dst v) w):wpAnyY P md ops Q S z (f+1) L a w:=
 wpAnyY_firstP hi hs (of_decide_eq_true hiz) hQ f L a w (Region.free_spec hi hf) (by simpa using hr) hy (fun _=>hS) h
theorem wpAnyY_one{i:Nat}{o:Oper}{f:Nat}{L:Array Bool}{a:Act}{w:World}(hr:Region.ready md ops L=[i])(ho:ops[i]?=some o)
 (h:∀K':Act→World→Prop,(∀a w,(i≠z→S w)→wpAnyY P md ops Q S z f (L.setIfInBounds i true) a w→K' a w)→if Region.wanted o (yielded ops a.tmps)=true then o.wp P a w K' Q else K' (a.put o.dst undef) w):wpAnyY P md ops Q S z (f+1) L a w:=by
 refine⟨fun h0=>(by rw[h0]at hr;cases hr),fun j hj=>?_⟩
 rw[hr,List.mem_singleton]at hj
 subst hj
 have h1:=h (fun a' w'=>(L.getD z true=false→j≠z→S w')∧wpAnyY P md ops Q S z f (L.setIfInBounds j true) a' w') (fun _ _ h1 h2=>⟨fun _=>h1,h2⟩)
 unfold wpOp
 rw[ho]
 dsimp only
 split
 ·rename_i hw;rw[if_pos hw]at h1;exact .inl h1
 ·rename_i hw;rw[if_neg hw]at h1;exact h1
theorem wpAnyY_done{L:Array Bool}{a:Act}{w:World}(hr:Region.ready md ops L=[])(h:Q .normal a w):∀f,wpAnyY P md ops Q S z f L a w
 |0=>⟨hr,h⟩
 |_+1=>⟨fun _=>h,by rw[hr];simp⟩
theorem wp_region_Y{id:Nat}{a:Act}{w:World}(hm:P.follows .mixedOrders=true)(S:World→Prop)(z:Nat)
 (h:wpAnyY P .any ops Q S z ops.size (Array.replicate ops.size false) a w.drew):(Code.region id ops true).wp P Q a w:=wp_region_any hm (wpAny_of_Y _ _ _ _ h)
end
end Go.Proofs.YtelgjaiknaalkaaDoor
