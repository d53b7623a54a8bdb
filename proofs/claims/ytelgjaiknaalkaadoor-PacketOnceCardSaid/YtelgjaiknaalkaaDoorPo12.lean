/- Lemmas, joined and made smaller by a program. -/
import Derived.Test.YtelgjaiknaalkaaDoorPo11
import Derived.Laws.Externs
import Derived.MapKept
import Derived.WalkKit
import Derived.Deep.LoopGhost
import Derived.Laws.IdiomRangeMap
open Go.Lib renaming hid → qq
set_option linter.unusedVariables false
set_option linter.unusedSimpArgs false
namespace Go.Proofs.YtelgjaiknaalkaaDoor
open Go.RowKit Go.Maps
theorem run_eqin_map{P:Program}(w:World)(d:Nat)(t k e:TypeId)(p:Option Nat)(h:P.underlying t=some (.map k e)):(Op.equalIn (d+1) t (.map p) (.map none)).run P w= .ok p.isNone w:=by
 cases p<;>simp[Op.equalIn,run_underlying h]
theorem run_eq_map{P:Program}(w:World)(t k e:TypeId)(p:Option Nat)(h:P.underlying t=some (.map k e)):(binOp .eql t (.map p) (.map none)).run P w= .ok (.bool p.isNone) w:=by
 simp only[binOp]
 simp[show Op.equal t (.map p) (.map none)=Op.equalIn (9999+1) t (.map p) (.map none)from rfl,run_eqin_map w 9999 t k e p h]
theorem run_assert_map{P:Program}(w:World)(t xT k e:TypeId)(v:Value)(h:P.underlying t=some (.map k e)):(Instr.typeAssert (.iface t v) xT t false).run P w= .ok v w:=by
 simp[Instr.typeAssert,run_underlying h,go_sem,Result.andThen]
theorem run_mclone{P:Program}(w:World){r:Nat}{es:Array MapEntry}{clock:Nat}(t:TypeId)(hb:w.heap[r]?=some (.map es clock)):
 (Extern.MapsClone.clone #[.iface t (.map (some r))]).run P w= .ok (.iface t (.map (some w.heap.size))) (w.alloc (.map es clock)):=by
 have e:Extern.MapsClone.clone #[.iface t (.map (some r))]=(getObj r>>=fun o=>match o with
  | .map entries clock=>(newObj (.map entries clock)>>=fun n=>pure (.iface t (.map (some n))))
  |_=>stuck "maps.clone: a map expected"):=rfl
 rw[e]
 simp[MapKept.run_getObj_map hb,Result.andThen,go_sem]
set_option maxRecDepth 100000 in
theorem mclone_any(w:World)(b:Nat)(l:List (Int×Value))(hm:MapO w b l):
 Calls Tryd.prog 50 #[.map (some b)] w fun e w'=>e= .returned (.map (some w.heap.size))∧MapO w' w.heap.size l∧Below w.heap.size w w':=by
 obtain⟨es,clock,hb,F,hs,hD⟩:=hm
 have hq:=fun w=>run_eq_map (P:=Tryd.prog) w 75 _ _ (some b) Tryd.underlying75
 go_enter Tryd.func50,Tryd.ntmps50
 go_wp2
 rw[run_callFunc_extern Tryd.func67 (by kernel_rfl) (by kernel_rfl) (by kernel_rfl) (e:=Extern.MapsClone.clone) (by kernel_rfl),run_mclone w 75 hb]
 simp only[Result.andThen]
 rw[Oper.upon_value]
 go_wp2
 rw[run_assert_map _ 75 20 _ _ _ Tryd.underlying75]
 simp only[Result.andThen]
 rw[Oper.upon_value]
 go_wp2
 go_ret
 exact⟨rfl,⟨es,clock,heap_alloc_new w _,F,hs,hD⟩,(Below.refl _ w).alloc (Nat.le_refl _) _⟩
def pdLow(lim:Int)(kl:Lit)(_:DataW Value):Bool:=
 match kl with
 | .int _ a=>decide (a<lim)
 |_=>false
theorem mapD_low(l:List (Int×Value))(lim:Int):Lib.deleteFuncD (pdLow lim) (mapD l)=mapD (l.filter fun p=>!decide (p.1<lim)):=by
 unfold Lib.deleteFuncD mapD
 simp only[List.filter_map]
 congr 2
set_option maxHeartbeats 4000000 in
set_option maxRecDepth 100000 in
theorem mdelete_any(lim:Int)(f:Nat)(cb:Array Value)(b:Nat)(l:List (Int×Value))(w:World)(hm:MapO w b l)
 (eg:∀args w,(callFunc f args).run Tryd.prog w= .ok (.enter f args) w)
 (hdel:∀(W:World) (x:Int) (cs:List Value),w.grownBy W (some b)→Calls Tryd.prog f (#[.int .i64 x,.agg cs.toArray]++cb) W fun e w'=>e= .returned (.bool (decide (x<lim)))∧W.grownBy w' none):
 Calls Tryd.prog 54 #[.map (some b),.func (.func f) #[] cb] w fun e w'=>e= .returned (.tuple #[])∧MapO w' b (l.filter fun p=>!decide (p.1<lim))∧w.grownBy w' (some b):=by
 obtain⟨n,hn⟩:∃n,n=l.length:=⟨_,rfl⟩
 have hown:w.ownsMap Tryd.prog 3 anyE b n (mapD l):=by rw[hn];exact hm
 have hap:(l.map fun p=>((Lit.int .i64 p.1:Lit),(DataW.held p.2:DataW Value))).Pairwise (fun p q=>p.1≠q.1):=by
  obtain⟨es0,he,h1,-⟩:=hown.entries intKey
  unfold mapD at he;injection he with he;rw[he];exact h1
 have hkeys:∀p∈ (l.map fun p=>((Lit.int .i64 p.1:Lit),(DataW.held p.2:DataW Value))),WideAt.IsKeyLit p.1:=by
  obtain⟨es0,he,-,h1⟩:=hown.entries intKey
  unfold mapD at he;injection he with he;rw[he];exact h1
 obtain⟨es0,he0⟩:∃es0,es0=l.map fun p=>((Lit.int .i64 p.1:Lit),(DataW.held p.2:DataW Value)):=⟨_,rfl⟩
 have hD:mapD l= .map es0:=by rw[he0];rfl
 have HEnd:=qq (mapD_low l lim)
 rw[←he0]at hap hkeys
 rw[hD]at hown HEnd
 have HD:=qq hdel
 clear hdel hm hn he0 hD
 go_enter Tryd.func54,Tryd.ntmps54
 go_wp2_with (first
  |(at_range;refine wpList_range_own _ rfl _ 75 rfl 3 56 intKey Tryd.underlying75 anyE b n _ rfl hown ?_;intro w0 hrg0 hg0 hs0))
 go_frame
 go_loopw [8] (fun _ wr=>∃(left:Lit→Bool) (cnt:Nat),wr.ranges Tryd.prog 3 anyE b w.heap.size n (Fk (pdLow lim) es0 left) left cnt∧w.grownBy wr (some b)) (fun _ wr=>wr.rangeLeft b w.heap.size)
 case atStart=>exact⟨_,_,by rw[Fk_start hkeys];exact hrg0,hg0.but _⟩
 case round=>
  obtain⟨left,cnt,hrg,hgw⟩:=hrel
  go_wp2_with (first
   |(at_next;refine wpList_next_ranges _ rfl _ rfl 3 intKey anyE (Value.int .i64) (fun cs:List Value=>Value.agg cs.toArray) (fun key kl hk=>by obtain⟨x,rfl,_⟩:=keyOf_int_inv Tryd.underlying3 hk;exact⟨x,rfl⟩) (fun v y hv=>by obtain⟨cs,rfl,-⟩:=onceB_inv (anyE_inv hv).1;exact⟨cs,rfl⟩) b w.heap.size n _ _ _ rfl hrg ?_ ?_))
  ·intro _ hl0
   go_wp2_with fail
   go_end0
   refine⟨rfl,?_,hgw⟩
   have h2:=hrg.owns
   rw[Fk_end hl0,HEnd.out]at h2
   exact MapO.of h2
  ·intro x cs kl yd yp w1 cnt1 hkey hlx hv hat hrg1 hlt hg1 hs1 hen
   have hgw1:=hgw.andThen hg1 (fun j hj=>by cases hj;exact Or.inl (Nat.le_refl _))
   obtain⟨h34,he⟩:=anyE_inv hv
   injection he with he1 he2
   subst he1 he2
   obtain⟨cs',e1,hcl,hc1⟩:=onceB_inv h34
   obtain rfl:cs=cs':=by injection e1 with e1;simpa using e1
   obtain⟨x',e2,rfl,hwx⟩:=keyOf_int_inv Tryd.underlying3 hkey
   injection e2 with _ e2
   subst e2
   have HZ:=qq (show Blk (w1.alloc (.cells zeroOnce.toArray 56)) wr.heap.size 56 zeroOnce by rw[←hs1];exact Blk.new _ _ _)
   go_upto_region 3 with(refine wpList_store_piece rfl 56 (.tmp 5) (.tmp 12) rfl wr.heap.size 0 rfl cs rfl 56 _ [] zeroOnce [] HZ.out (by simp) rfl (by rw[hcl];rfl) (by rw[sizeOnce,hcl]) hc1 ?_;intro w2 hx2 hg2)
   have HX2:=qq (show Blk w2 wr.heap.size 56 cs from hx2.cast (by simp))
   have hgn:w1.grownBy w2 none:=by
    have ha:=World.grownBy_alloc w1 (.cells zeroOnce.toArray 56) none
    exact⟨hg2.os.trans ha.os,hg2.tape.trans ha.tape,hg2.output.trans ha.output,Nat.le_trans ha.size hg2.size,fun k hk _=>(hg2.block k (by simp;omega) (fun e=>by injection e with e;omega)).trans (ha.block k hk (by simp))⟩
   have hrg2:=hrg1.kept hgn (by simp) (by simp)
   have hgw2:=hgw1.andThen hgn (fun j hj=>by cases hj)
   have hc:=HD.out w2 x cs hgw2
   clear hx2 hg2 HZ
   cases hp:decide (x<lim)<;>rw[hp]at hc
   ·go_wp2_with (first
     |(refine wpList_load_mid rfl 56 (.tmp 5) rfl wr.heap.size 0 rfl cs _ HX2.out.whole Tryd.underlying56 rfl (by rw[sizeOnce,hcl]) ?_)
     |(go_at_fn f;refine hc.mono ?_;rintro e w3 ⟨rfl,hg3⟩))
    have hrg3:=hrg2.kept hg3 (by simp) (by simp)
    go_roundw
    case rel=>exact⟨_,cnt1,by rw[←Fk_stays hap (intKey.key hkey) hlx hp hat];exact hrg3,hgw2.andThen hg3 (fun j hj=>by cases hj)⟩
    case measure=>rw[hrg3.left_eq,hrg.left_eq];exact hlt
   ·go_wp2_with (first
     |(refine wpList_load_mid rfl 56 (.tmp 5) rfl wr.heap.size 0 rfl cs _ HX2.out.whole Tryd.underlying56 rfl (by rw[sizeOnce,hcl]) ?_)
     |(go_at_fn f;refine hc.mono ?_;rintro e w3 ⟨rfl,hg3⟩;have hrg3:=hrg2.kept hg3 (by simp) (by simp))
     |(at_delete;refine wpList_delete_ranges _ rfl _ _ 75 3 rfl 56 intKey Tryd.underlying75 anyE b w.heap.size n _ _ _ rfl hrg3 _ _ rfl hkey ?_;intro w4 cnt4 hrg4 hle hturn;go_frame))
    rw[strike_twice]at hrg4
    go_roundw
    case rel=>exact⟨_,cnt4,by rw[←Fk_struck hap (intKey.key hkey) hlx hp hat];exact hrg4,(hgw2.andThen hg3 (fun j hj=>by cases hj)).andThen hturn.grown (fun j hj=>by cases hj;exact Or.inr rfl)⟩
    case measure=>rw[hrg4.left_eq,hrg.left_eq];omega
end Go.Proofs.YtelgjaiknaalkaaDoor
namespace Go.Proofs.YtelgjaiknaalkaaDoor
open Go.RowKit
def zeroLine:List Value:=lineC false 0 0#64 (List.replicate 32 0#8) 0 (.map none)
set_option maxRecDepth 100000 in
set_option maxHeartbeats 2000000 in
theorem copied_any(w:World)(g o:Nat)(t:Bool)(h:Int)(s:BitVec 64)(link:List (BitVec 8))(place:Int)(gm:Nat)(hr:w.rangeAt g o (lineC t h s link place (.map (some gm))))(hl:link.length=32)(hg:g<w.heap.size)(es:List (Int×Value))(hm:MapO w gm es):
 Calls Tryd.prog 35 #[.pointer (some ⟨g,o,none⟩)] w fun e w'=>∃gn mn,e= .returned (.pointer (some ⟨gn,0,none⟩))∧w.heap.size≤gn∧w.heap.size≤mn∧
  Blk w' gn 77 (lineC t h s link place (.map (some mn)))∧MapO w' mn es∧Below w.heap.size w w':=by
 have HS:=qq hl
 have HM:=qq hm
 have HR:=qq hr
 have HZ:=qq (show Blk (w.alloc (.cells zeroLine.toArray 77)) w.heap.size 77 zeroLine from Blk.new _ _ _)
 have c36:=hr 36 _ (lineC_36 hl)
 clear hr hl hm
 go_enter Tryd.func35,Tryd.ntmps35
 go_upto_region 2 with(first
  |(refine wpList_load_mid rfl 77 (.tmp 5) rfl g o rfl _ _ HR.out Tryd.underlying77 rfl (by rw[sizeLine,lineC_len _ _ _ _ _ _ HS.out]) ?_)
  |(refine wpList_store_piece rfl 77 (.tmp 3) (.tmp 6) rfl w.heap.size 0 rfl (lineC t h s link place (.map (some gm))) rfl 77 _ [] zeroLine [] HZ.out (by simp) rfl (by rw[lineC_len _ _ _ _ _ _ HS.out];rfl) (by rw[sizeLine,lineC_len _ _ _ _ _ _ HS.out]) (lineC_one rfl) ?_;intro w2 hx2 hg2))
 have hB2:Below w.heap.size w w2:=((Below.refl _ w).alloc (Nat.le_refl _) _).grown hg2 (by simp) (fun k e=>by cases e;exact Nat.le_refl _)
 have hz2:w.heap.size+1≤w2.heap.size:=by have:=hg2.size;simpa using this
 have HX2:=qq (show Blk w2 w.heap.size 77 (lineC t h s link place (.map (some gm)))from hx2.cast (by simp))
 have HB2:=qq hB2
 have c36':=(hB2.cell (p:=⟨g,o+36,none⟩) hg).trans c36
 have HC:=qq (mclone_any w2 gm es (HM.out.below hB2 HM.out.lt))
 clear hx2 hg2 c36 HM HR HZ hB2
 go_wp2_with fail
 refine HC.out.mono ?_
 rintro e w3 ⟨rfl,hm3,hb3⟩
 have HX3:=qq (HX2.out.below hb3 (by omega))
 have HM3:=qq hm3
 have HB3:=qq (HB2.out.trans (hb3.mono (by omega)))
 have f36:=HX3.out.frozen 36
 have c36:=HX3.out.cell 36 (lineC_36 HS.out)
 have hz3:=hb3.size
 clear hm3 hb3 c36'
 go_wp2_with fail
 go_ret
 have hg4:=grownBy_set w3 w.heap.size 36 (.map (some w2.heap.size))
 exact⟨w.heap.size,w2.heap.size,rfl,Nat.le_refl _,by omega,(HX3.out.set_ 36 _).cast (lineC_set36 HS.out _),HM3.out.kept hg4 (fun e=>by injection e with e;omega),HB3.out.grown hg4 HB3.out.size (fun k e=>by cases e;exact Nat.le_refl _)⟩
structure Marks(M:List Int)(t:Bool)(h:Int)(s:BitVec 64)(l:LineM):Prop where
 inv:Inv M t h s
 hi:hiL M=l.place-1
 mem:∀n,l.low≤n→(n∈M↔n∈l.asked)
theorem Marks.start(link:List (BitVec 8)):Marks [] false 0 0#64 (startL link):=⟨Inv.start,rfl,fun n _=>Iff.rfl⟩
section
variable{M:List Int}{t:Bool}{h:Int}{s:BitVec 64}{l:LineM}
theorem Marks.bound(x:Marks M t h s l):t=true→0≤h∧h<4294967295:=x.inv.bound
theorem Marks.refuse(x:Marks M t h s l)(k:LOK l){n:Int}(hc:winCheck t h s n≠0):takeE l n=winCheck t h s n:=by
 rw[x.inv.check n]at hc ⊢
 have hh:=x.hi
 have hk:=k.hi
 unfold refCheck at hc ⊢
 unfold takeE
 rw[hh]at hc ⊢
 rw[hk]
 by_cases h1:n<0∨4294967294<n
 ·rw[if_pos h1,if_pos h1]
 rw[if_neg h1]at hc ⊢
 rw[if_neg h1]
 by_cases h2:n<l.place-1-64
 ·rw[if_pos h2,if_pos h2]
 rw[if_neg h2]at hc ⊢
 rw[if_neg h2]
 by_cases h3:n∈M
 ·rw[if_pos h3]
  by_cases h4:n<l.low
  ·rw[if_pos h4]
  ·rw[if_neg h4,if_pos ((x.mem n (by omega)).1 h3)]
 ·rw[if_neg h3]at hc;exact absurd rfl hc
theorem Marks.pass(x:Marks M t h s l){n:Int}(hc:winCheck t h s n=0):0≤n∧n≤4294967294∧l.place-65≤n∧n∉M∧refCheck M n=0:=by
 rw[x.inv.check n]at hc
 have hc':=hc
 unfold refCheck at hc
 rw[x.hi]at hc
 split at hc;cases hc
 split at hc;cases hc
 split at hc;cases hc
 exact⟨by omega,by omega,by omega,by assumption,hc'⟩
theorem Marks.found(x:Marks M t h s l)(k:LOK l){n:Int}(hc:winCheck t h s n=0){o:OnceM}(ho:o∈l.held)(hn:o.no=n):takeE l n=0:=by
 obtain⟨n0,n1,n2,-,-⟩:=x.pass hc
 obtain⟨g1,g2,g3,-⟩:=k.held o ho
 have hk:=k.hi
 subst hn
 unfold takeE
 rw[hk,if_neg (by omega),if_neg (by omega),if_neg (by omega),if_neg g3,if_neg (by omega)]
theorem Marks.passed(x:Marks M t h s l)(k:LOK l){n:Int}(hc:winCheck t h s n=0)(hno:∀o∈l.held,o.no≠n)(hp:n<l.place):takeE l n=7:=by
 obtain⟨n0,n1,n2,n3,-⟩:=x.pass hc
 have hk:=k.hi
 unfold takeE
 rw[hk,if_neg (by omega),if_neg (by omega)]
 by_cases h4:n<l.low
 ·rw[if_pos h4]
 ·rw[if_neg h4]
  by_cases h5:n∈l.asked
  ·rw[if_pos h5]
  ·exfalso
   obtain⟨o,ho,he⟩:=k.all n (by omega) hp h5 n2
   exact hno o ho he
theorem Marks.beyond(x:Marks M t h s l)(k:LOK l){n:Int}(hc:winCheck t h s n=0)(hp:l.place≤n):takeE l n=if 256<n-l.place then 12 else 0:=by
 obtain⟨n0,n1,n2,n3,-⟩:=x.pass hc
 have hk:=k.hi
 have hl:=k.lowp
 unfold takeE
 rw[hk,if_neg (by omega),if_neg (by omega),if_neg (by omega),if_neg (fun h5=>n3 ((x.mem n (by omega)).2 h5))]
 by_cases hf:256<n-l.place
 ·rw[if_pos hf,if_pos (by omega)]
 ·rw[if_neg hf,if_neg (by omega)]
theorem Marks.take(x:Marks M t h s l)(k:LOK l){n:Int}(hc:winCheck t h s n=0)(h0:takeE l n=0):
 Marks (M++ [n]) (winMark t h s n).1 (winMark t h s n).2.1 (winMark t h s n).2.2 (takeL l n):=by
 obtain⟨n0,n1,n2,n3,hr⟩:=x.pass hc
 refine⟨x.inv.mark n hr,?_,fun m hm=>?_⟩
 ·rw[hiL_snoc,x.hi]
  show _=(if l.place≤n then n+1 else l.place)-1
  by_cases hp:l.place≤n
  ·rw[if_pos (by omega),if_pos hp];omega
  ·rw[if_neg (by omega),if_neg hp]
 ·have hm':l.low≤m:=hm
  show m∈M++ [n]↔m∈l.asked++ [n]
  rw[List.mem_append,List.mem_append,x.mem m hm']
end
def mapL(hp:List (OnceM×Nat)):List (Int×Value):=hp.map fun p=>(p.1.no,.agg (onceC p.1.no p.1.key (nonceS p.2)).toArray)
theorem mapL_app(a b:List (OnceM×Nat)):mapL (a++b)=mapL a++mapL b:=by unfold mapL;rw[List.map_append]
theorem mapL_filter(hp:List (OnceM×Nat))(f:Int→Bool):(mapL hp).filter (fun p=>f p.1)=mapL (hp.filter fun p=>f p.1.no):=by
 unfold mapL
 rw[List.filter_map]
 congr 1
structure HeldAt(w:World)(gm:Nat)(hp:List (OnceM×Nat)):Prop where
 map:MapO w gm (mapL hp)
 mem:∀p∈hp,Arr b8 w p.2 5 (p.1.key++p.1.nonce)
theorem HeldAt.below{w w':World}{gm B:Nat}{hp:List (OnceM×Nat)}(x:HeldAt w gm hp)(hb:Below B w w')(hg:gm<B)(hB:∀p∈hp,p.2<B):HeldAt w' gm hp:=
 ⟨x.map.below hb hg,fun p hp'=>(x.mem p hp').below hb (hB p hp')⟩
theorem HeldAt.alloc{w:World}{gm:Nat}{hp:List (OnceM×Nat)}(x:HeldAt w gm hp)(o:Obj):HeldAt (w.alloc o) gm hp:=⟨x.map.alloc o,fun p hp'=>(x.mem p hp').alloc o⟩
theorem HeldAt.cells{w w':World}{gm g:Nat}{hp:List (OnceM×Nat)}(x:HeldAt w gm hp){cs:Array Value}{T:TypeId}(hg:w.heap[g]?=some (.cells cs T (0,0)))(hT:T≠5)(hb:w.grownBy w' (some g)):HeldAt w' gm hp:=
 ⟨x.map.kept hb (fun e=>by injection e with e;subst e;exact x.map.not_cells hg rfl),fun p hp'=>(x.mem p hp').grown hb (fun e=>by
  injection e with e;subst e
  have h1:=x.mem p hp'
  unfold Arr at h1
  rw[h1]at hg;cases hg;exact hT rfl)⟩
theorem find_held{hp:List (OnceM×Nat)}{n:Int}(h:∃p∈hp,p.1.no=n):(mapL hp).any (fun p=>decide (p.1=n))=true:=by
 obtain⟨p,hp',e⟩:=h
 exact List.any_eq_true.2 ⟨_,List.mem_map.2 ⟨p,hp',rfl⟩,by simp[e]⟩
theorem none_held{hp:List (OnceM×Nat)}{n:Int}(h:∀p∈hp,p.1.no≠n):(mapL hp).any (fun p=>decide (p.1=n))=false:=by
 rw[List.any_eq_false]
 intro x hx
 obtain⟨p,hp',rfl⟩:=List.mem_map.1 hx
 simp[h p hp']
theorem mapL_rise{hp:List (OnceM×Nat)}(h:RiseO (hp.map Prod.fst)):RiseK (mapL hp):=by
 unfold RiseK mapL
 unfold RiseO at h
 rw[List.pairwise_map]at h ⊢
 exact h
end Go.Proofs.YtelgjaiknaalkaaDoor
