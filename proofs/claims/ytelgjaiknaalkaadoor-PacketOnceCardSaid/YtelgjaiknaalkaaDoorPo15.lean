/- Lemmas, joined and made smaller by a program. -/
import Derived.Test.YtelgjaiknaalkaaDoorPo14
open Go.Lib renaming hid → qq
open List renaming setIfInBounds_toArray → qj
open List renaming set_cons_zero → qz
open List renaming set_cons_succ → qv
set_option linter.unusedVariables false
set_option linter.unusedSimpArgs false
namespace Go.Proofs.YtelgjaiknaalkaaDoor
open Go.RowKit
set_option maxRecDepth 100000 in
theorem keep_any(W:World)(box g:Nat)(T:TypeId)(lc:List Value)(h:Int)(s:BitVec 64)(hb:Boxed W box 70 (.pointer (some ⟨g,0,none⟩)))(hw:WinO W g 0 T lc true h s)(hh:0≤h∧h≤4294967295)(x:Int)(cs:List Value):
 Calls Tryd.prog 55 #[.int .i64 x,.agg cs.toArray,.pointer (some ⟨box,0,none⟩)] W fun e w'=>e= .returned (.bool (decide (x<h-64)))∧W.grownBy w' none:=by
 have cb:=hb.alloc (.cells cs.toArray 56)|>.cell
 have HHi:=qq (highestO g 0 T lc true h s (W.alloc (.cells cs.toArray 56)) ⟨hw.blk.alloc _,hw.e0,hw.e1,hw.e2⟩)
 have hs:IntKind.i64.wrap (h-64)=h-64:=IntWalk.i64_in _ (by omega)
 clear hb hw
 go_enter Tryd.func55,Tryd.ntmps55
 go_wp2_with fail
 refine HHi.out.mono ?_
 rintro e w1 ⟨rfl,rfl⟩
 simp only[if_true]
 go_wp2_with fail
 go_ret
 exact⟨rfl,World.grownBy_alloc W _ none⟩
def restOf(n:Int)(g:Nat)(w:World):Nat:=
 match w.cell? ⟨g,35,none⟩with
 |some (.int _ p)=>(n-p).toNat
 |_=>0
theorem restOf_eq{n:Int}{g:Nat}{w:World}{t:Bool}{h:Int}{s:BitVec 64}{link:List (BitVec 8)}{p:Int}{m:Value}(hB:Blk w g 77 (lineC t h s link p m))(hl:link.length=32):restOf n g w=(n-p).toNat:=by
 unfold restOf
 rw[hB.cell 35 (lineC_35 hl)]
theorem ofL_no(link:List (BitVec 8))(n:Int):(ofL link n).no=n:=by simp only[ofL]
theorem ofL_keyE(link:List (BitVec 8))(n:Int):(ofL link n).key=(labV link lKey 44).take 32:=by simp only[ofL]
theorem ofL_nonceE(link:List (BitVec 8))(n:Int):(ofL link n).nonce=(labV link lKey 44).drop 32:=by simp only[ofL]
theorem mapL_one(o:OnceM)(b:Nat):mapL [(o,b)]=[(o.no,.agg (onceC o.no o.key (nonceS b)).toArray)]:=rfl
theorem Marks.top{M:List Int}{t:Bool}{h:Int}{s:BitVec 64}{l:LineM}(x:Marks M t h s l){n:Int}(hn:l.place≤n):∃s',winMark t h s n=(true,n,s'):=by
 unfold winMark
 cases t with
 |false=>exact⟨_,rfl⟩
 |true=>
  have h1:=(x.inv.some_ rfl).1
  have h2:=x.hi
  rw[if_neg (by simp),if_neg (by omega)]
  exact⟨_,rfl⟩
theorem rise_len:∀(l:List OnceM) (a b:Int),RiseO l→(∀o∈l,a≤o.no∧o.no<b)→(l.length:Int)≤max 0 (b-a)
 | [],_,_,_,_=>by simp;omega
 |o::r,a,b,hr,h=>by
  obtain⟨h1,h2⟩:=List.pairwise_cons.1 hr
  have ho:=h o (by simp)
  have ih:=rise_len r (o.no+1) b h2 (fun x hx=>⟨by have:=h1 x hx;omega,(h x (by simp[hx])).2⟩)
  simp only[List.length_cons]
  omega
structure RunI(w0 wr:World)(K g gm:Nat)(hp rs:List (OnceM×Nat))(l:LineM)(t:Bool)(h:Int)(s:BitVec 64)(j:Nat):Prop where
 fst:rs.map Prod.fst=runL l.link l.place j
 box:Boxed wr w0.heap.size 70 (.pointer (some ⟨g,0,none⟩))
 zero:Blk wr (w0.heap.size+1) 56 zeroOnce
 line:Blk wr g 77 (lineC t h s (linkAt l.link j) (l.place+(j:Int)) (.map (some gm)))
 held:HeldAt wr gm (hp++rs)
 nd:((hp++rs).map Prod.snd).Nodup
 new:∀p∈rs,w0.heap.size≤p.2
 below:Below K w0 wr
 size:w0.heap.size+3≤wr.heap.size
theorem RunI.more{w0 wr w8:World}{K g gm:Nat}{hp rs:List (OnceM×Nat)}{l:LineM}{t:Bool}{h:Int}{s:BitVec 64}{j b:Nat}(x:RunI w0 wr K g gm hp rs l t h s j)(hf:hp.map Prod.fst=l.held)(hok:LOK l)
 (hb:wr.heap.size≤b)(hbox:Boxed w8 w0.heap.size 70 (.pointer (some ⟨g,0,none⟩)))(hz:Blk w8 (w0.heap.size+1) 56 zeroOnce)
 (hl:Blk w8 g 77 (lineC t h s (linkAt l.link (j+1)) (l.place+(j:Int)+1) (.map (some gm))))(hm:MapO w8 gm (mapL (hp++rs)++ [(l.place+(j:Int),.agg (onceC (l.place+(j:Int)) ((labV (linkAt l.link j) lKey 44).take 32) (nonceS b)).toArray)]))
 (hmem:∀p∈hp++rs,Arr b8 w8 p.2 5 (p.1.key++p.1.nonce))(hA:Arr b8 w8 b 5 (labV (linkAt l.link j) lKey 44))(hB:Below K w0 w8)(hs:w0.heap.size+3≤w8.heap.size)(hlt:∀p∈hp++rs,p.2<wr.heap.size):
 RunI w0 w8 K g gm hp (rs++ [(ofL (linkAt l.link j) (l.place+(j:Int)),b)]) l t h s (j+1) where
 fst:=by simp only[List.map_append,x.fst,List.map_cons,List.map_nil,runL]
 box:=hbox
 zero:=hz
 line:=by
  have e:l.place+((j+1:Nat):Int)=l.place+(j:Int)+1:=by omega
  rw[e];exact hl
 held:=⟨by
  rw[←List.append_assoc,mapL_app,mapL_one,ofL_no,ofL_keyE]
  exact hm,fun p hp'=>by
  rw[←List.append_assoc]at hp'
  rcases List.mem_append.1 hp' with h1|h1
  ·exact hmem p h1
  ·rw[List.mem_singleton]at h1;subst h1
   rw[ofL_keyE,ofL_nonceE,List.take_append_drop];exact hA⟩
 nd:=by
  rw[←List.append_assoc,List.map_append]
  refine List.nodup_append.2 ⟨x.nd,by simp,fun a ha c hc e=>?_⟩
  simp only[List.map_cons,List.map_nil,List.mem_singleton]at hc
  obtain⟨p,hp',rfl⟩:=List.mem_map.1 ha
  have:=hlt p hp'
  omega
 new:=fun p hp'=>by
  rcases List.mem_append.1 hp' with h1|h1
  ·exact x.new p h1
  ·rw[List.mem_singleton]at h1;subst h1
   have:=x.size;show w0.heap.size≤b;omega
 below:=hB
 size:=hs
theorem RunI.keys{w0 wr:World}{K g gm:Nat}{hp rs:List (OnceM×Nat)}{l:LineM}{t:Bool}{h:Int}{s:BitVec 64}{j:Nat}(x:RunI w0 wr K g gm hp rs l t h s j)(hf:hp.map Prod.fst=l.held)(hok:LOK l):∀q∈mapL (hp++rs),q.1<l.place+(j:Int):=by
 intro q hq
 obtain⟨p,hp',rfl⟩:=List.mem_map.1 hq
 show p.1.no<l.place+(j:Int)
 rcases List.mem_append.1 hp' with h1|h1
 ·have:=(hok.held p.1 (by rw[←hf];exact List.mem_map.2 ⟨p,h1,rfl⟩)).2.1
  omega
 ·have h2:p.1∈runL l.link l.place j:=by rw[←x.fst];exact List.mem_map.2 ⟨p,h1,rfl⟩
  obtain⟨i,hi,e⟩:=(mem_runL _ _ _ _).1 h2
  rw[e,ofL_no];omega
theorem RunI.len{w0 wr:World}{K g gm:Nat}{hp rs:List (OnceM×Nat)}{l:LineM}{t:Bool}{h:Int}{s:BitVec 64}{j:Nat}(x:RunI w0 wr K g gm hp rs l t h s j)(hf:hp.map Prod.fst=l.held)(hok:LOK l)(hj:j≤256):(mapL (hp++rs)).length<maxLen:=by
 have h1:hp.length=l.held.length:=by rw[←hf,List.length_map]
 have h2:rs.length=j:=by have:=congrArg List.length x.fst;rwa[List.length_map,runL_len]at this
 have h3:=rise_len l.held (l.place-65) l.place hok.rise (fun o ho=>⟨(hok.held o ho).2.2.2.1,(hok.held o ho).2.1⟩)
 unfold mapL maxLen
 rw[List.length_map,List.length_append]
 omega
set_option maxRecDepth 100000 in
set_option maxHeartbeats 8000000 in
theorem take_runs(w:World)(g gm:Nat)(hp:List (OnceM×Nat))(l:LineM)(M:List Int)(t:Bool)(h:Int)(s:BitVec 64)(n:Int)(k:Nat)(hB:Blk w g 77 (lineC t h s l.link l.place (.map (some gm))))(hH:HeldAt w gm hp)
 (hf:hp.map Prod.fst=l.held)(hnd:(hp.map Prod.snd).Nodup)(hok:LOK l)(hM:Marks M t h s l)(hc:winCheck t h s n=0)(hno:∀p∈hp,p.1.no≠n)(hnk:n=l.place+(k:Int))(hk:k≤256)(K:Nat)(hKb:K≤g∧K≤gm∧K≤w.heap.size):
 Calls Tryd.prog 36 #[.pointer (some ⟨g,0,none⟩),.int .i64 n] w fun e w'=>∃b hp',e= .returned (.tuple #[.agg (onceC n ((labV (linkAt l.link k) lKey 44).take 32) (nonceS b)).toArray,.nilIface])∧
  Arr b8 w' b 5 (labV (linkAt l.link k) lKey 44)∧Blk w' g 77 (lineC (winMark t h s n).1 (winMark t h s n).2.1 (winMark t h s n).2.2 (linkAt l.link (k+1)) (n+1) (.map (some gm)))∧
  HeldAt w' gm hp'∧hp'.map Prod.fst=(l.held++runL l.link l.place k).filter (fun o=>!decide (o.no<n-64))∧(b::hp'.map Prod.snd).Nodup∧(∀x∈b::hp'.map Prod.snd,x∈hp.map Prod.snd∨w.heap.size≤x)∧Below K w w':=by
 obtain⟨n0,n1,-,-,-⟩:=hM.pass hc
 have p0:=hok.low0
 have p1:=hok.lowp
 have p2:=hok.top
 have HNo:=qq (none_held hno)
 have HNd:=qq (show∀zd,(mapD (mapL hp)).atKey (.int .i64 n) zd=zd from mapD_none _ _ (fun q hq=>by obtain⟨p,hp',rfl⟩:=List.mem_map.1 hq;exact hno p hp'))
 have HCc:=qq hc
 have HBd:=qq hM.bound
 have HF:=qq hf
 have HNd2:=qq hnd
 have HNk:=qq hnk
 have HMs:=qq hM
 have HLt:=qq (show∀p∈hp,p.2<w.heap.size from fun p hp'=>(hH.mem p hp').lt)
 clear hc hf hno hnd
 have hlo:l.place≤n:=by omega
 clear hnk
 have HH:=qq hH
 have HS:=qq hok.len
 have HPl:=qq hok
 obtain⟨w2,hw2⟩:∃w2,w2=(w.alloc (.cells #[.pointer (some ⟨g,0,none⟩)] 70)).alloc (.cells zeroOnce.toArray 56):=⟨_,rfl⟩
 have HX2:=qq (show Boxed w2 w.heap.size 70 (.pointer (some ⟨g,0,none⟩)) by rw[hw2];exact(Boxed.new w _ _).alloc _)
 have HZ2:=qq (show Blk w2 (w.heap.size+1) 56 zeroOnce by rw[hw2];exact Blk.at_size _ _ (by simp))
 have HB2:=qq (show Blk w2 g 77 (lineC t h s l.link l.place (.map (some gm))) by rw[hw2];exact(hB.alloc _).alloc _)
 have HH2:=qq (show HeldAt w2 gm hp by rw[hw2];exact(hH.alloc _).alloc _)
 have HK2:=qq (show Below w.heap.size w w2 by rw[hw2];exact((Below.refl _ w).alloc (Nat.le_refl _) _).alloc (by simp) _)
 have hgl:=hB.lt
 have hml:=hH.map.lt
 have hz2:w2.heap.size=w.heap.size+2:=by rw[hw2];simp
 have HW2:=qq hw2
 have HC:=qq (wcheckO g 0 77 _ t h s n w2 (WinO.of_line HB2.out) hM.bound)
 clear hw2 hB hH hok hM
 go_enter Tryd.func36,Tryd.ntmps36
 go_upto_region 1 with fail
 have hw2:=HW2.out
 simp only[show zeroOnce.toArray= #[Value.int .i64 0,Value.int .u8 0,Value.int .u8 0,Value.int .u8 0,Value.int .u8 0,Value.int .u8 0,Value.int .u8 0,Value.int .u8 0,Value.int .u8 0,Value.int .u8 0,Value.int .u8 0,Value.int .u8 0,Value.int .u8 0,Value.int .u8 0,Value.int .u8 0,Value.int .u8 0,Value.int .u8 0,Value.int .u8 0,Value.int .u8 0,Value.int .u8 0,Value.int .u8 0,Value.int .u8 0,Value.int .u8 0,Value.int .u8 0,Value.int .u8 0,Value.int .u8 0,Value.int .u8 0,Value.int .u8 0,Value.int .u8 0,Value.int .u8 0,Value.int .u8 0,Value.int .u8 0,Value.int .u8 0,Value.slice none 0 0]from rfl]at hw2
 rw[←hw2]
 clear hw2
 have cb:=HX2.out.cell
 go_wp2_with fail
 refine HC.out.mono ?_
 rintro e w3 ⟨rfl,rfl⟩
 rw[HCc.out,errV_zero]
 have hlk:(zeroValue 56).run Tryd.prog w2= .ok (.agg zeroOnce.toArray) w2:=by kernel_rfl
 have c36:=HB2.out.cell 36 (lineC_36 HS.out)
 have hkey:=keyI (a:=n) (by omega) (by omega)
 have HZn:=qq (show Blk (w2.alloc (.cells zeroOnce.toArray 56)) (w.heap.size+2) 56 zeroOnce by rw[←hz2];exact Blk.new _ _ _)
 go_upto_region 4 with fail
 go_upto_region 5 with(first
  |(at_lookup;(refine wpList_lookup_own_ok _ rfl _ _ 75 rfl 3 56 intKey Tryd.underlying75 anyE hlk (.held (.agg zeroOnce.toArray)) [] anyE_zero gm _ _ rfl HH2.out.map _ _ rfl hkey ?_;intro v ps hv;obtain⟨-,hvy⟩:=anyE_inv hv;injection hvy with hv1 hv2;rw[HNd.out]at hv1;injection hv1 with hv1;subst hv1;rw[mapD_has,HNo.out];clear hv hv2))
  |(refine wpList_store_piece rfl 56 (.tmp 7) (.tmp 30) rfl (w.heap.size+2) 0 rfl (zeroOnce) rfl 56 _ [] zeroOnce [] HZn.out (by simp) rfl (by have h34:=zeroOnce_len;first|(rw[h34];done)|(rw[h34];rfl)) (by rw[sizeOnce,zeroOnce_len]) ((onceC_one _ _ _ _ _)) ?_;intro w4 hx4 hg4))
 have HX4:=qq (show Blk w4 (w.heap.size+2) 56 (zeroOnce)from hx4.cast (by simp))
 have HK4:=qq (show Below w2.heap.size w2 w4 from((Below.refl _ w2).alloc (Nat.le_refl _) _).grown hg4 (by simp) (fun k e=>by cases e;omega))
 have hz4:w2.heap.size+1≤w4.heap.size:=by have:=hg4.size;simpa using this
 have HB4:=qq (HB2.out.below HK4.out (by omega))
 have HH4:=qq (HH2.out.below HK4.out (by omega) (fun p hp'=>(HH2.out.mem p hp').lt))
 have HB0:Hid (Boxed w4 w.heap.size 70 (.pointer (some ⟨g,0,none⟩))):=qq ((HK4.out.block _ (by omega)).trans HX2.out)
 have HZ4:=qq (HZ2.out.below HK4.out (by omega))
 have HK04:=qq (HK2.out.trans (HK4.out.mono (by omega)))
 clear hx4 hg4 c36 cb
 have cb:=HB0.out.cell
 have c35:=HB4.out.cell 35 (lineC_35 HS.out)
 have hd:decide (n<l.place)=false:=by simp;omega
 have hsub:IntKind.i64.wrap (n-l.place)=n-l.place:=IntWalk.i64_in _ (by omega)
 have hd2:decide (256<n-l.place)=false:=by have:=HNk.out;simp;omega
 go_wp2_with fail
 have HI:=qq (show RunI w w4 K g gm hp [] l t h s 0 from⟨rfl,HB0.out,HZ4.out,(by rw[show l.place+((0:Nat):Int)=l.place by omega];exact HB4.out),(by rw[List.append_nil];exact HH4.out),(by rw[List.append_nil];exact HNd2.out),(fun p hp'=>by cases hp'),HK04.out.mono hKb.2.2,by omega⟩)
 clear HX4 HK4 HB4 HH4 HB0 HZ4 HK04 HX2 HZ2 HB2 HH2 HK2 HH HC HZn c35 cb hd hsub hd2 hz4 HNo HNd
 go_loopw [10] (fun _ wr=>∃(j:Nat) (rs:List (OnceM×Nat)),j≤k∧RunI w wr K g gm hp rs l t h s j) (fun _ wr=>restOf n g wr)
 case atStart=>exact⟨0,[],by omega,HI.out⟩
 case round=>
  clear HI
  obtain⟨j,rs,hjk,hI⟩:=hrel
  have HI:=qq hI
  have hsz:=hI.size
  have HLk:=qq (linkAt_len l.link HS.out j)
  have hrest:=restOf_eq (n:=n) hI.line HLk.out
  have HRest:=qq hrest
  have cb:=hI.box.cell
  have c35:=hI.line.cell 35 (lineC_35 HLk.out)
  clear hI hrest
  by_cases hlt:j<k
  ·have hd:decide (l.place+(j:Int)<n)=true:=by have:=HNk.out;simp;omega
   obtain⟨V,hV⟩:∃V,V=labV (linkAt l.link j) lKey 44:=⟨_,rfl⟩
   obtain⟨Kk,hKk⟩:∃Kk,Kk=V.take 32:=⟨_,rfl⟩
   obtain⟨q,hq⟩:∃q,q=l.place+(j:Int):=⟨_,rfl⟩
   have HKl:=qq (show Kk.length=32 by rw[hKk,hV,List.length_take,labV_len _ _ _ (by omega)];rfl)
   have hst:=step_any wr g t h s (linkAt l.link j) (l.place+(j:Int)) (.map (some gm)) HI.out.line HLk.out (by have:=HNk.out;omega)
   rw[←hV,←hKk,←hq]at hst
   have HSt:=qq hst
   have hq0:0≤q∧q≤4294967295:=by have:=HNk.out;omega
   have HV:=qq hV
   have HKk:=qq hKk
   have HQ:=qq hq
   rw[←hq]at c35 hd
   clear hst hV hKk hq
   go_wp2_with fail
   refine HSt.out.mono ?_
   rintro e w5 ⟨b,rfl,hb5,hA5,hB5,hg5⟩
   have HA5:=qq hA5
   have HB5:=qq (show Blk w5 g 77 (lineC t h s (linkAt l.link (j+1)) (q+1) (.map (some gm)))from hB5)
   have hbl:=hA5.lt
   have hz5:=hg5.size
   have HX5:=qq (HI.out.box.kept hg5 (fun e=>by injection e with e;omega))
   have HZ5:=qq (HI.out.zero.grown hg5 (fun e=>by injection e with e;omega))
   have HH5:=qq (HI.out.held.cells HI.out.line (by decide) hg5)
   have HK5:=qq (HI.out.below.grown hg5 (Nat.le_trans hKb.2.2 (by omega)) (fun k e=>by cases e;exact hKb.1))
   have HZa:=qq (show Blk (w5.alloc (.cells zeroOnce.toArray 56)) w5.heap.size 56 zeroOnce from Blk.new _ _ _)
   clear hA5 hB5 hg5 HSt
   go_upto_region 16 with(refine wpList_store_piece rfl 56 (.tmp 9) (.tmp 72) rfl w5.heap.size 0 rfl (onceC q Kk (nonceS b)) rfl 56 _ [] zeroOnce [] HZa.out (by simp) rfl (by rw[onceC_len _ _ _ HKl.out];rfl) (by rw[sizeOnce,onceC_len _ _ _ HKl.out]) (onceC_one _ _ _ _ _) ?_;intro w6 hx6 hg6)
   have HX6:=qq (show Blk w6 w5.heap.size 56 (onceC q Kk (nonceS b))from hx6.cast (by simp))
   have HK6:=qq (show Below w5.heap.size w5 w6 from((Below.refl _ w5).alloc (Nat.le_refl _) _).grown hg6 (by simp) (fun k e=>by cases e;exact Nat.le_refl _))
   have hz6:=HK6.out.size
   have hm6:=HH5.out.map.lt
   have HP6:=qq (HX5.out.kept (World.grownBy.but ⟨HK6.out.os,HK6.out.tape,HK6.out.output,HK6.out.size,fun i hi _=>HK6.out.block i hi⟩ none) (by simp))
   have HB6:=qq (HB5.out.below HK6.out (by omega))
   have HZ6:=qq (HZ5.out.below HK6.out (by omega))
   have HH6:=qq (HH5.out.below HK6.out hm6 (fun p hp'=>(HH5.out.mem p hp').lt))
   have HA6:=qq (HA5.out.below HK6.out hbl)
   clear hx6 hg6 HX5 HZ5 HH5
   have hkey:=keyI (a:=q) (by omega) (by omega)
   obtain⟨w8,hrun,hown8,hturn8⟩:=World.ownsMap.store (val:= .agg (onceC q Kk (nonceS b)).toArray) HH6.out.map.drew intKey Tryd.underlying75 (HI.out.len HF.out HPl.out (by omega)) hkey (anyE_mk (onceB_mk (onceC_len _ _ _ HKl.out) (onceC_one q Kk (some ⟨b,32,none⟩) 12 12)))
   have hg8:=hturn8.grown
   have hg8':w6.grownBy w8 (some gm):=⟨hg8.os,hg8.tape,hg8.output,hg8.size,hg8.block⟩
   have hgm:gm≠g:=HH6.out.map.not_cells HB6.out
   rw[mapD_put _ _ _ (by rw[HQ.out];exact HI.out.keys HF.out HPl.out)]at hown8
   have HM8:=qq (MapO.of hown8)
   have HX8:=qq (HX6.out.grown hg8' (fun e=>by injection e with e;have:=HI.out.held.map.lt;omega))
   have HP8:=qq (HP6.out.kept hg8' (fun e=>by injection e with e;omega))
   have HB8:=qq (HB6.out.grown hg8' (fun e=>by injection e with e;exact hgm e.symm))
   have HZ8:=qq (HZ6.out.grown hg8' (fun e=>by injection e with e;omega))
   have HA8:=qq (arr_grown_map HA6.out HH6.out.map hg8')
   have HN8:=qq (show∀p∈hp++rs,Arr b8 w8 p.2 5 (p.1.key++p.1.nonce)from fun p hp'=>arr_grown_map (HH6.out.mem p hp') HH6.out.map hg8')
   have HK8:=qq (show Below K w w8 from(HK5.out.trans (HK6.out.mono (by omega))).grown hg8' (by omega) (fun k e=>by cases e;exact hKb.2.1))
   have hz8:=hg8'.size
   have hk6:=show w6.drew.rangeAt w5.heap.size 0 (onceC q Kk (nonceS b))∧w6.drew.cell? ⟨w.heap.size,0,none⟩=some (.pointer (some ⟨g,0,none⟩))∧w6.drew.cell? ⟨g,36,none⟩=some (.map (some gm))∧w6.drew.cell? ⟨w5.heap.size,0,none⟩=some (.int .i64 q)from
    ⟨HX6.out.drew.whole,HP6.out.cell,HB6.out.drew.cell 36 (lineC_36 (linkAt_len _ HS.out _)),HX6.out.drew.cell 0 rfl⟩
   have hk8:=show w8.rangeAt w5.heap.size 0 (onceC q Kk (nonceS b))∧w8.cell? ⟨w.heap.size,0,none⟩=some (.pointer (some ⟨g,0,none⟩))∧w8.cell? ⟨g,36,none⟩=some (.map (some gm))∧w8.cell? ⟨w5.heap.size,0,none⟩=some (.int .i64 q)from
    ⟨HX8.out.whole,HP8.out.cell,HB8.out.cell 36 (lineC_36 (linkAt_len _ HS.out _)),HX8.out.cell 0 rfl⟩
   have hu:=Tryd.underlying56
   have hi34:(Tryd.prog.info? 56).map (·.size)=some (onceC q Kk (nonceS b)).length:=by rw[onceC_len _ _ _ HKl.out];exact sizeOnce
   clear hown8 hturn8 hg8 hg8'
   refine wp_region_noPanic ?_
   refine wp_region_held_drew (S:=fun w'=>w'.rangeAt w5.heap.size 0 (onceC q Kk (nonceS b))∧w'.cell? ⟨w.heap.size,0,none⟩=some (.pointer (some ⟨g,0,none⟩))∧w'.cell? ⟨g,36,none⟩=some (.map (some gm))∧w'.cell? ⟨w5.heap.size,0,none⟩=some (.int .i64 q)) (by kernel_rfl) hk6 (fun hS=>?_)
   refine wpAnyH_take (i:=0) (oi:={dst:=some 78,op:=_,type:=_,pos:=_,after:=_,guard:=_}) (v:= .pointer (some ⟨g,0,none⟩)) rfl (by kernel_rfl) (by kernel_rfl) (by kernel_rfl) (fun _ _ _ h=>h) (Or.inl ⟨by rfl,?_⟩) hS ?_
   ·intro w' hw'
    obtain⟨s0,s1,s2,s3⟩:=hw'
    go_simp
   try simp only[Act.put,qj,qz,qv]
   refine wpAnyH_take (i:=1) (oi:={dst:=some 79,op:=_,type:=_,pos:=_,after:=_,guard:=_}) (v:= .pointer (some ⟨g,0,none⟩)) rfl (by kernel_rfl) (by kernel_rfl) (by kernel_rfl) (fun _ _ _ h=>h) (Or.inl ⟨by rfl,?_⟩) hS ?_
   ·intro w' hw'
    go_simp
   try simp only[Act.put,qj,qz,qv]
   refine wpAnyH_take (i:=2) (oi:={dst:=some 80,op:=_,type:=_,pos:=_,after:=_,guard:=_}) (v:= .pointer (some ⟨g,36,none⟩)) rfl (by kernel_rfl) (by kernel_rfl) (by kernel_rfl) (fun _ _ _ h=>h) (Or.inl ⟨by rfl,?_⟩) hS ?_
   ·intro w' hw'
    go_simp
   try simp only[Act.put,qj,qz,qv]
   refine wpAnyH_take (i:=3) (oi:={dst:=some 81,op:=_,type:=_,pos:=_,after:=_,guard:=_}) (v:= .map (some gm)) rfl (by kernel_rfl) (by kernel_rfl) (by kernel_rfl) (fun _ _ _ h=>h) (Or.inl ⟨by rfl,?_⟩) hS ?_
   ·intro w' hw'
    obtain⟨s0,s1,s2,s3⟩:=hw'
    go_simp
   try simp only[Act.put,qj,qz,qv]
   refine wpAnyH_take (i:=4) (oi:={dst:=some 82,op:=_,type:=_,pos:=_,after:=_,guard:=_}) (v:= .pointer (some ⟨w5.heap.size,0,none⟩)) rfl (by kernel_rfl) (by kernel_rfl) (by kernel_rfl) (fun _ _ _ h=>h) (Or.inl ⟨by rfl,?_⟩) hS ?_
   ·intro w' hw'
    go_simp
   try simp only[Act.put,qj,qz,qv]
   refine wpAnyH_take (i:=5) (oi:={dst:=some 83,op:=_,type:=_,pos:=_,after:=_,guard:=_}) (v:= .int .i64 q) rfl (by kernel_rfl) (by kernel_rfl) (by kernel_rfl) (fun _ _ _ h=>h) (Or.inl ⟨by rfl,?_⟩) hS ?_
   ·intro w' hw'
    obtain⟨s0,s1,s2,s3⟩:=hw'
    go_simp
   try simp only[Act.put,qj,qz,qv]
   refine wpAnyH_take (i:=6) (oi:={dst:=some 84,op:=_,type:=_,pos:=_,after:=_,guard:=_}) (v:= .agg (onceC q Kk (nonceS b)).toArray) rfl (by kernel_rfl) (by kernel_rfl) (by kernel_rfl) (fun _ _ _ h=>h) (yieldsIf_load_mid (by rfl) 56 (.tmp 9) rfl w5.heap.size 0 rfl (onceC q Kk (nonceS b)) _ (fun _ h=>h.1) hu rfl hi34) hS ?_
   try simp only[Act.put,qj,qz,qv]
   refine wpAnyH_ready (rs:=[7]) (by kernel_rfl) (by simp) (AllReadyH.cons (o:={dst:=none,op:=_,type:=_,pos:=_,after:=_,guard:=_}) rfl (fun K' hK=>?_) AllReadyH.nil)
   go_simp
   refine hK.out _ _ (hk8) (fun hS=>?_)
   clear hK K'
   try simp only[Act.put,qj,qz,qv]
   refine wpAnyH_done (by kernel_rfl) ?_ _
   refine NoPanic.normal ?_
   go_wp2_with fail
   go_roundw
   case rel=>
    refine⟨j+1,rs++ [(ofL (linkAt l.link j) (l.place+(j:Int)),b)],by omega,?_⟩
    have hq:=HQ.out
    subst hq
    exact HI.out.more HF.out HPl.out hb5 HP8.out HZ8.out HB8.out (by rw[←HV.out,←HKk.out];exact HM8.out) HN8.out (by rw[←HV.out];exact HA8.out) HK8.out (by omega) (fun p hp'=>(HI.out.held.mem p hp').lt)
   case measure=>
    rw[HRest.out,restOf_eq (n:=n) HB8.out (linkAt_len _ HS.out _)]
    have:=HQ.out
    have:=HNk.out
    omega
  ·obtain rfl:j=k:=by omega
   have hn2:=HNk.out
   have hd:decide (n<n)=false:=by simp
   obtain⟨V,hV⟩:∃V,V=labV (linkAt l.link j) lKey 44:=⟨_,rfl⟩
   obtain⟨Kk,hKk⟩:∃Kk,Kk=V.take 32:=⟨_,rfl⟩
   have HKl:=qq (show Kk.length=32 by rw[hKk,hV,List.length_take,labV_len _ _ _ (by omega)];rfl)
   have hst:=step_any wr g t h s (linkAt l.link j) (l.place+(j:Int)) (.map (some gm)) HI.out.line HLk.out (by omega)
   rw[←hV,←hKk,←hn2]at hst
   have HSt:=qq hst
   have HV:=qq hV
   have HKk:=qq hKk
   rw[←hn2]at c35
   obtain⟨s',hs'⟩:=HMs.out.top hlo
   have HMk0:=qq hs'
   clear hst hV hKk hn2 hs'
   go_wp2_with fail
   refine HSt.out.mono ?_
   rintro e w5 ⟨b,rfl,hb5,hA5,hB5,hg5⟩
   have HA5:=qq hA5
   have HB5:=qq (show Blk w5 g 77 (lineC t h s (linkAt l.link (j+1)) (n+1) (.map (some gm)))from hB5)
   have hbl:=hA5.lt
   have hz5:=hg5.size
   have HX5:=qq (HI.out.box.kept hg5 (fun e=>by injection e with e;omega))
   have HZ5:=qq (HI.out.zero.grown hg5 (fun e=>by injection e with e;omega))
   have HH5:=qq (HI.out.held.cells HI.out.line (by decide) hg5)
   have HK5:=qq (HI.out.below.grown hg5 (Nat.le_trans hKb.2.2 (by omega)) (fun k e=>by cases e;exact hKb.1))
   have HZa:=qq (show Blk (w5.alloc (.cells zeroOnce.toArray 56)) w5.heap.size 56 zeroOnce from Blk.new _ _ _)
   clear hA5 hB5 hg5 HSt
   go_upto_region 18 with(refine wpList_store_piece rfl 56 (.tmp 11) (.tmp 88) rfl w5.heap.size 0 rfl (onceC n Kk (nonceS b)) rfl 56 _ [] zeroOnce [] HZa.out (by simp) rfl (by rw[onceC_len _ _ _ HKl.out];rfl) (by rw[sizeOnce,onceC_len _ _ _ HKl.out]) (onceC_one _ _ _ _ _) ?_;intro w6 hx6 hg6)
   have HX6:=qq (show Blk w6 w5.heap.size 56 (onceC n Kk (nonceS b))from hx6.cast (by simp))
   have HK6:=qq (show Below w5.heap.size w5 w6 from((Below.refl _ w5).alloc (Nat.le_refl _) _).grown hg6 (by simp) (fun k e=>by cases e;exact Nat.le_refl _))
   have hz6:w5.heap.size+1≤w6.heap.size:=by have:=hg6.size;simpa using this
   have hm6:=HH5.out.map.lt
   have HP6:=qq (HX5.out.kept (World.grownBy.but ⟨HK6.out.os,HK6.out.tape,HK6.out.output,HK6.out.size,fun i hi _=>HK6.out.block i hi⟩ none) (by simp))
   have HB6:=qq (HB5.out.below HK6.out (by omega))
   have HZ6:=qq (HZ5.out.below HK6.out (by omega))
   have HH6:=qq (HH5.out.below HK6.out hm6 (fun p hp'=>(HH5.out.mem p hp').lt))
   have HA6:=qq (HA5.out.below HK6.out hbl)
   have HMk:=qq (wmarkO g 0 77 _ t h s n w6 (WinO.of_line HB6.out) HBd.out)
   have hgm:gm≠g:=HH6.out.map.not_cells HB6.out
   have hml2:=HI.out.held.map.lt
   have cb:=HP6.out.cell
   clear hx6 hg6 HX5 HZ5 HH5
   go_wp2_with fail
   refine HMk.out.mono ?_
   rintro e w7 ⟨rfl,-,hb7⟩
   obtain⟨hb7,hg7⟩:=hb7 HCc.out
   rw[lineC_setW]at hb7
   have HB7:=qq hb7
   have HX7:=qq (HX6.out.grown hg7 (fun e=>by injection e with e;omega))
   have HZ7:=qq (HZ6.out.grown hg7 (fun e=>by injection e with e;omega))
   have HP7:=qq (HP6.out.kept hg7 (fun e=>by injection e with e;omega))
   have HH7:=qq (HH6.out.cells HB6.out (by decide) hg7)
   have HA7:=qq (arr_grown_line HA6.out HB6.out (by decide) hg7)
   have HK7:=qq (show Below K w w7 from(HK5.out.trans (HK6.out.mono (by omega))).grown hg7 (by omega) (fun k e=>by cases e;exact hKb.1))
   have hz7:=hg7.size
   have cb:=HP7.out.cell
   have c36:=HB7.out.cell 36 (lineC_36 (linkAt_len _ HS.out _))
   rw[HCc.out,errV_zero]
   have hdel:=mdelete_any (n-64) 55 #[.pointer (some ⟨w.heap.size,0,none⟩)] gm _ w7 HH7.out.map (fun args w=>by kernel_rfl) (fun W x cs hW=>by
    have hb':=HB7.out.grown hW (fun e=>by injection e with e;exact hgm e.symm)
    rw[HMk0.out]at hb'
    exact keep_any W w.heap.size g _ _ n s' (HP7.out.kept hW (fun e=>by injection e with e;omega)) (WinO.of_line hb') (by omega) x cs)
   have HDel:=qq hdel
   clear hb7 hg7 hdel
   go_wp2_with fail
   refine HDel.out.mono ?_
   rintro e w8 ⟨rfl,hm8,hg8⟩
   rw[mapL_filter (f:=fun x=>!decide (x<n-64))]at hm8
   obtain⟨hp',hhp⟩:∃hp',hp'=(hp++rs).filter (fun p=>!decide (p.1.no<n-64)):=⟨_,rfl⟩
   rw[←hhp]at hm8
   have hsub:∀p∈hp',p∈hp++rs:=fun p hp2=>by rw[hhp]at hp2;exact(List.mem_filter.1 hp2).1
   have HX8:=qq (HX7.out.grown hg8 (fun e=>by injection e with e;omega))
   have HZ8:=qq (HZ7.out.grown hg8 (fun e=>by injection e with e;omega))
   have HB8:=qq (HB7.out.grown hg8 (fun e=>by injection e with e;exact hgm e.symm))
   have HH8:HeldAt w8 gm hp':=⟨hm8,fun p hp2=>arr_grown_map (HH7.out.mem p (hsub p hp2)) HH7.out.map hg8⟩
   have HA8:=arr_grown_map HA7.out HH7.out.map hg8
   have HK8:=qq (HK7.out.grown hg8 (by omega) (fun k e=>by cases e;exact hKb.2.1))
   have HH8':=qq HH8
   have HA8':=qq HA8
   have HHp:=qq hhp
   have HSub:=qq hsub
   have hz8:=hg8.size
   clear hm8 hg8 HH8 HA8 hhp hsub HDel
   go_upto_region 24 with fail
   refine wp_region_lit ?_
   refine wpList_load_mid rfl 56 (.tmp 11) rfl w5.heap.size 0 rfl (onceC n Kk (nonceS b)) _ HX8.out.whole Tryd.underlying56 rfl (by rw[sizeOnce,onceC_len _ _ _ HKl.out]) ?_
   go_wp2_with (refine wpList_store_piece rfl 56 (.tmp 4) (.tmp 109) rfl (w.heap.size+1) 0 rfl (onceC n Kk (nonceS b)) rfl 56 _ [] zeroOnce [] HZ8.out (by simp) rfl (by rw[onceC_len _ _ _ HKl.out];rfl) (by rw[sizeOnce,onceC_len _ _ _ HKl.out]) (onceC_one _ _ _ _ _) ?_;intro w9 hx9 hg9)
   have HX9:=qq (show Blk w9 (w.heap.size+1) 56 (onceC n Kk (nonceS b))from hx9.cast (by simp))
   refine bodyPost_ret (v:= .tuple #[.agg (onceC n Kk (nonceS b)).toArray,.nilIface]) (results_blk_tmp (g:=w.heap.size+1) rfl _ _ _ _ _ _ rfl rfl HX9.out Tryd.underlying56 rfl (by rw[sizeOnce,onceC_len _ _ _ HKl.out])) rfl ?_
   refine⟨b,hp',by rw[HKk.out,HV.out],?_,?_,HH8'.out.cells HZ8.out (by decide) hg9,?_,?_,?_,HK8.out.grown hg9 (by omega) (fun k e=>by cases e;omega)⟩
   ·rw[←HV.out];exact arr_grown_line HA8'.out HZ8.out (by decide) hg9
   ·exact HB8.out.grown hg9 (fun e=>by injection e with e;omega)
   ·rw[HHp.out,←HF.out,←HI.out.fst,←List.map_append,List.filter_map];rfl
   ·refine List.nodup_cons.2 ⟨fun hin=>?_,?_⟩
    ·obtain⟨p,hp2,e⟩:=List.mem_map.1 hin
     have:=(HI.out.held.mem p (HSub.out p hp2)).lt
     omega
    ·rw[HHp.out]
     exact HI.out.nd.sublist (List.Sublist.map _ List.filter_sublist)
   ·intro x hx
    rcases List.mem_cons.1 hx with rfl|hx
    ·exact .inr (by omega)
    ·obtain⟨p,hp2,rfl⟩:=List.mem_map.1 hx
     rcases List.mem_append.1 (HSub.out p hp2)with h1|h1
     ·exact .inl (List.mem_map.2 ⟨p,h1,rfl⟩)
     ·exact .inr (HI.out.new p h1)
end Go.Proofs.YtelgjaiknaalkaaDoor
