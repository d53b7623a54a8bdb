/- Lemmas, joined and made smaller by a program. -/
import Derived.Test.YtelgjaiknaalkaaDoorPo29
import Derived.Test.YtelgjaiknaalkaaDoorPo31
import Derived.Test.YtelgjaiknaalkaaDoorPo09
import Derived.Test.YtelgjaiknaalkaaDoorPo20
import Derived.Test.YtelgjaiknaalkaaDoorPo23
open Go.Lib renaming hid → qq
set_option linter.unusedVariables false
set_option linter.unusedSimpArgs false
namespace Go.Proofs.YtelgjaiknaalkaaDoor
open Go.RowKit
set_option maxRecDepth 100000 in
set_option maxHeartbeats 4000000 in
theorem seal_any(w:World)(key:List (BitVec 8))(hk:key.length=32)(A C T:Option Addr)(n c l cc m d Bn Bc Bm:Nat)(nonce ctx text:List (BitVec 8))
 (hrn:Rd b8 w Bn A nonce)(hBn:Bn≤w.heap.size)(hn:nonce.length=n)(hnc:n≤c)
 (hrc:Rd b8 w Bc C ctx)(hBc:Bc≤w.heap.size)(hl:ctx.length=l)
 (hrm:Rd b8 w Bm T text)(hBm:Bm≤w.heap.size)(hm:text.length=m):
 Calls Tryd.prog 15 #[arrV b8 key,.slice A n c,.slice C l cc,.slice T m d] w fun e w'=>∃v,e= .returned (.tuple #[v,errV (sealBad n l m)])∧Own b8 w' w.heap.size 5 v (sealV key nonce ctx text)∧Below w.heap.size w w':=by
 have HK:=qq hk
 have HN:=qq hn
 have HL:=qq hl
 have HM:=qq hm
 have HRn:=qq (hrn.more hBn)
 have HRc:=qq (hrc.more hBc)
 have HRm:=qq (hrm.more hBm)
 have hsv:sealV key nonce ctx text=if sealBad n l m=0 then mixV key nonce 1 text++tagOf key nonce ctx (mixV key nonce 1 text)else[]:=by unfold sealV;rw[hn,hl,hm]
 rw[hsv]
 clear hk hn hl hm hrn hrc hrm hBn hBc hBm hsv
 rw[arrV_mk]
 have HK1:=qq (Arr.new b8 w 54 key)
 have HB1:=qq (show Below w.heap.size w (w.alloc (.cells (key.map b8).toArray 54))from(Below.refl _ w).alloc (Nat.le_refl _) _)
 by_cases h1:n=12
 ·subst h1
  by_cases h2:l≤1048576
  ·by_cases h3:m≤1048576
   ·have hgood:sealBad 12 l m=0:=by unfold sealBad;rw[if_neg (by omega)]
    rw[hgood,if_pos rfl,errV_zero]
    obtain⟨X,hX⟩:∃X,mixV key nonce 1 text=X:=⟨_,rfl⟩
    rw[hX]
    have HXe:=qq hX
    clear hX
    have h2i:¬((l:Int)>1048576):=by omega
    have h3i:¬((m:Int)>1048576):=by omega
    go_enter Tryd.func15,Tryd.ntmps15
    go_wp2_with (refine wpList_load_arr rfl 54 (.tmp 4) rfl w.heap.size rfl _ key HK1.out _ Tryd.underlying54 rfl (by rw[HK.out];exact size32k) ?_)
    have hml:=mixV_len1 key nonce text HN.out (by rw[HM.out];omega)
    have hmx:=mix_any key A 12 c w.heap.size nonce 1 T m d w.heap.size text (w.alloc (.cells (key.map b8).toArray 54)) HK.out (HRn.out.alloc (Nat.le_refl _) _) (by simp) HN.out hnc (HRm.out.alloc (Nat.le_refl _) _) (by simp) HM.out (by omega) (by omega) (by omega)
    rw[HM.out]at hml
    rw[hml.1,errV_zero,arrV_mk]at hmx
    rw[HXe.out]at hmx hml
    have HX:=qq hml.2
    have HMx:=qq hmx
    have hz1:(w.alloc (.cells (key.map b8).toArray 54)).heap.size=w.heap.size+1:=by simp
    clear hml hmx
    refine HMx.out.mono ?_
    rintro e w2 ⟨v2,rfl,ho2,hb2⟩
    obtain⟨A2,c2,rfl,hr2,-,-,-⟩:=ho2.shape' HX.out
    have hz2:=hb2.size
    have HR2:=qq hr2
    have HB2:=qq (HB1.out.trans (hb2.mono (by omega)))
    have HK2:=qq (HK1.out.below hb2 (by omega))
    clear ho2 hb2 hr2 HMx HB1 HK1
    go_wp2_with (refine wpList_load_arr rfl 54 (.tmp 4) rfl w.heap.size rfl _ key HK2.out _ Tryd.underlying54 rfl (by rw[HK.out];exact size32k) ?_)
    have ham:=amark_any w2 key HK.out A C A2 12 c l cc m c2 w.heap.size w.heap.size w2.heap.size nonce ctx X (HRn.out.below HB2.out) HB2.out.size HN.out rfl hnc (HRc.out.below HB2.out) HB2.out.size HL.out (by omega) HR2.out (Nat.le_refl _) HX.out (by omega)
    rw[arrV_mk]at ham
    have HAm:=qq ham
    clear ham
    refine HAm.out.mono ?_
    rintro e w3 ⟨g3,rfl,hg3,ha3,hb3⟩
    have hz3:=hb3.size
    have HR3:=qq ((HR2.out.below hb3).more hz3)
    have HA3:=qq (show Rd b8 w3 w3.heap.size (some ⟨g3,0,none⟩) (tagOf key nonce ctx X)from(ha3.rd 0).more (by have:=ha3.lt;omega))
    have HB3:=qq (HB2.out.trans (hb3.mono HB2.out.size))
    have hs3:=HB3.out.size
    clear ha3 hb3 HR2 HAm HB2
    go_wp2_with fail
    have hcc:=concat_two w3 w3.heap.size m c2 16 16 A2 (some ⟨g3,0,none⟩) X (tagOf key nonce ctx X) HR3.out HA3.out (Nat.le_refl _) HX.out.symm (tagOf_len _ _ _ _).symm (by rw[HX.out,tagOf_len];omega)
    have HCc:=qq hcc
    clear hcc
    refine HCc.out.mono ?_
    rintro e w4 ⟨v4,rfl,ho4,hb4⟩
    have HO4:=qq (ho4.less (show w.heap.size≤w3.heap.size+1 by omega))
    have HB4:=qq (HB3.out.trans (hb4.mono hs3))
    clear ho4 hb4 HCc
    go_wp2_with fail
    go_ret2
    exact⟨_,rfl,HO4.out,HB4.out⟩
   ·have h2i:¬((l:Int)>1048576):=by omega
    have h3i:(m:Int)>1048576:=by omega
    have hbad:sealBad 12 l m=1:=by unfold sealBad;rw[if_pos (by omega)]
    rw[hbad,if_neg (by decide)]
    go_enter Tryd.func15,Tryd.ntmps15
    go_wp2_with fail
    go_ret2
    exact⟨_,rfl,Own.nil_ _ _ _ _,HB1.out⟩
  ·have h2i:(l:Int)>1048576:=by omega
   have hbad:sealBad 12 l m=1:=by unfold sealBad;rw[if_pos (by omega)]
   rw[hbad,if_neg (by decide)]
   go_enter Tryd.func15,Tryd.ntmps15
   go_wp2_with fail
   go_ret2
   exact⟨_,rfl,Own.nil_ _ _ _ _,HB1.out⟩
 ·have h1i:¬((n:Int)=12):=by omega
  have hbad:sealBad n l m=1:=by unfold sealBad;rw[if_pos (by omega)]
  rw[hbad,if_neg (by decide)]
  go_enter Tryd.func15,Tryd.ntmps15
  go_wp2_with fail
  go_ret2
  exact⟨_,rfl,Own.nil_ _ _ _ _,HB1.out⟩
section
variable{w w':World}{base gB:Nat}{b:BX}
theorem BoxAt.took(h:BoxAt w base gB b){i j:Nat}(hi:i<b.es.length)(hj:j<b.es[i].xs.length){y:LP}{L:LineM}(hyl:y.l=L)(hc:ChAt w' b.es[i].gC b.es[i].gl (b.es[i].xs.set j y))(hg:w.grownBy w' (some b.es[i].gl))(hgm:w.heap.size≤y.gm)
 (hzz:∀z∈y.hp.map Prod.snd,z∈b.es[i].xs[j].hp.map Prod.snd∨w.heap.size≤z):
 ∃b',b'.m=⟨b.m.grp,setLine b.m.es i j L,b.m.clr⟩∧b'.v=b.v∧BoxAt w' base gB b'∧Frm w w' b.efoot∧∀k∈BX.foot gB b',k∈BX.foot gB b∨w.heap.size≤k:=by
 have hgl:b.es[i].gl∈b.es[i].foot:=by simp[EP.foot,chFoot]
 have F:Frm w w' [b.es[i].gl]:=(Frm.refl w _).grown hg (by simp)
 obtain⟨h1,h2⟩:=h.turn_ hi F (fun k hk=>by rw[List.mem_singleton]at hk;rw[hk];exact hgl) (xs:=b.es[i].xs.set j y) (by rw[List.length_set]) hc (fun k hk=>by
  unfold chFoot at hk
  simp only[List.mem_cons,List.mem_append]at hk
  unfold EP.foot chFoot
  simp only[List.mem_cons,List.mem_append]
  rcases hk with h4|h4|h4|h4
  ·exact .inl (.inl h4)
  ·exact .inl (.inr (.inl h4))
  ·obtain⟨x,hx,rfl⟩:=List.mem_map.1 h4
   rcases List.mem_or_eq_of_mem_set hx with h5|rfl
   ·exact .inl (.inr (.inr (.inl (List.mem_map.2 ⟨x,h5,rfl⟩))))
   ·exact .inr hgm
  ·obtain⟨x,hx,h6⟩:=List.mem_flatMap.1 h4
   rcases List.mem_or_eq_of_mem_set hx with h5|rfl
   ·exact .inl (.inr (.inr (.inr (List.mem_flatMap.2 ⟨x,h5,h6⟩))))
   ·rcases hzz k h6 with h7|h7
    ·exact .inl (.inr (.inr (.inr (List.mem_flatMap.2 ⟨_,List.getElem_mem hj,h7⟩))))
    ·exact .inr h7)
 refine⟨b.turn i b.es[i] (b.es[i].xs.set j y),by rw[bx_turn hi,hyl],rfl,h1,⟨F.os,F.tape,F.output,F.size,fun k hk hn=>F.block k hk (fun h5=>hn ?_)⟩,h2⟩
 rw[List.mem_singleton]at h5
 exact List.mem_flatMap.2 ⟨_,List.getElem_mem hi,by rw[h5];exact hgl⟩
theorem BoxAt.row_efoot(h:BoxAt w base gB b){g:Nat}(hg:b.v.ownBlock=some g):g∉b.efoot:=fun hm=>by
 obtain⟨e,he,hk⟩:=List.mem_flatMap.1 hm
 exact h.row_notin hg e he hk
theorem BX.efoot_sub(gB:Nat)(b:BX):∀k∈b.efoot,k∈BX.foot gB b:=fun k hk=>by
 simp only[BX.foot,List.mem_cons,List.mem_append]
 exact .inr (.inr hk)
theorem Frm.new{w'':World}{S:List Nat}(h:Frm w w' S){row:Nat}(hg:w'.grownBy w'' (some row))(hr:w.heap.size≤row):Frm w w'' S:=⟨hg.os.trans h.os,hg.tape.trans h.tape,hg.output.trans h.output,Nat.le_trans h.size hg.size,fun k hk hn=>(hg.block k (Nat.lt_of_lt_of_le hk h.size) (fun e=>by injection e with e;omega)).trans (h.block k hk hn)⟩
end
theorem chNext_ok{w:World}{base gB:Nat}{b:BX}(h:BoxAt w base gB b){i j:Nat}(hi:i<b.es.length)(hj:j<b.es[i].xs.length){l:LineM}(hl:l=b.es[i].xs[j].l)(hE:takeE l l.place=0):
 Calls Tryd.prog 14 #[.pointer (some ⟨b.es[i].gC,0,none⟩),.int .i64 (j:Int)] w fun e w'=>∃k b',e= .returned (.tuple #[.agg (onceC l.place (takeO l l.place).key (nonceS k)).toArray,.nilIface])∧
  Arr b8 w' k 5 ((takeO l l.place).key++(takeO l l.place).nonce)∧b'.m=⟨b.m.grp,setLine b.m.es i j (takeL l l.place),b.m.clr⟩∧b'.v=b.v∧BoxAt w' base gB b'∧Frm w w' b.efoot∧∀k∈BX.foot gB b',k∈BX.foot gB b∨w.heap.size≤k:=by
 subst hl
 have hb:=h.bnd _ (List.getElem_mem hi)
 refine(next_okZ w _ _ _ (h.ch _ (List.getElem_mem hi)) j hj (by omega) hE).mono ?_
 rintro e w' ⟨k,y,rfl,hA,hyl,hC,hnd,hg,hgm,hzz⟩
 obtain⟨b',h1,h2,h3,h4,h5⟩:=h.took hi hj hyl hC hg hgm (fun z hz=>hzz z (List.mem_cons_of_mem _ hz))
 exact⟨k,b',rfl,hA,h1,h2,h3,h4,h5⟩
theorem chTake_ok{w:World}{base gB:Nat}{b:BX}(h:BoxAt w base gB b){i j:Nat}(hi:i<b.es.length)(hj:j<b.es[i].xs.length){l:LineM}(hl:l=b.es[i].xs[j].l)(n:Int)(hE:takeE l n=0):
 Calls Tryd.prog 22 #[.pointer (some ⟨b.es[i].gC,0,none⟩),.int .i64 (j:Int),.int .i64 n] w fun e w'=>∃k b',e= .returned (.tuple #[.agg (onceC n (takeO l n).key (nonceS k)).toArray,.nilIface])∧
  Arr b8 w' k 5 ((takeO l n).key++(takeO l n).nonce)∧b'.m=⟨b.m.grp,setLine b.m.es i j (takeL l n),b.m.clr⟩∧b'.v=b.v∧BoxAt w' base gB b'∧Frm w w' b.efoot∧∀k∈BX.foot gB b',k∈BX.foot gB b∨w.heap.size≤k:=by
 subst hl
 have hb:=h.bnd _ (List.getElem_mem hi)
 refine(ctake_okZ w _ _ _ (h.ch _ (List.getElem_mem hi)) j hj (by omega) n hE).mono ?_
 rintro e w' ⟨k,y,rfl,hA,hyl,hC,hnd,hg,hgm,hzz⟩
 obtain⟨b',h1,h2,h3,h4,h5⟩:=h.took hi hj hyl hC hg hgm (fun z hz=>hzz z (List.mem_cons_of_mem _ hz))
 exact⟨k,b',rfl,hA,h1,h2,h3,h4,h5⟩
structure PM where
 grp:List (BitVec 8)
 ep:Int
 fr:Int
 nu:Int
 sl:List (BitVec 8)
def zeroP:PM:=⟨List.replicate 32 0#8,0,0,0,[]⟩
def sealE(b:BM)(m:Nat):Nat:=match lastLine b.es with
 |none=>10
 |some l=>if 1024<m then 1 else takeE l l.place
def sealP(b:BM)(text:List (BitVec 8)):PM:=match lastLine b.es with
 |none=>zeroP
 |some l=>if sealE b text.length=0 then⟨b.grp,lastNo b.es,(lastLeaf b.es:Int),l.place,sealV (takeO l l.place).key (takeO l l.place).nonce (ctxV b.grp (lastNo b.es) (lastLeaf b.es:Int) l.place) text⟩else zeroP
def sealM(b:BM)(m:Nat):BM:=match lastLine b.es with
 |none=>b
 |some l=>if sealE b m=0 then⟨b.grp,setLine b.es (b.es.length-1) (lastLeaf b.es) (takeL l l.place),b.clr⟩else b
end Go.Proofs.YtelgjaiknaalkaaDoor
namespace Go.Proofs.YtelgjaiknaalkaaDoor
open Go.RowKit
set_option maxRecDepth 100000
def findE(es:List EM)(ep:Int):Option Nat:=es.findIdx? fun e=>e.no==ep
def findI(es:List EM)(ep:Int):Int:=match findE es ep with
 |none=> -1
 |some i=>(i:Int)
theorem findE_some{b:BX}{ep:Int}{i:Nat}(h:findE b.m.es ep=some i):∃hi:i<b.es.length,b.es[i].no=ep∧∀(j:Nat) (hj:j<i),(b.es[j]'(by omega)).no≠ep:=by
 unfold findE BX.m at h
 rw[List.findIdx?_eq_some_iff_getElem]at h
 obtain⟨hi,h1,h2⟩:=h
 rw[List.length_map]at hi
 refine⟨hi,by simpa[EP.m]using h1,fun j hj=>?_⟩
 have:=h2 j hj
 simpa[EP.m]using this
theorem findE_none{b:BX}{ep:Int}(h:findE b.m.es ep=none):∀(j:Nat) (hj:j<b.es.length),b.es[j].no≠ep:=by
 unfold findE BX.m at h
 rw[List.findIdx?_eq_none_iff]at h
 intro j hj
 have:=h (b.es[j].m) (List.mem_map.2 ⟨_,List.getElem_mem hj,rfl⟩)
 simpa[EP.m]using this
theorem openPick_any(W:World)(gP:Nat)(ep no lf:Int)(gC:Nat)(hp:gP<W.heap.size)(hc:W.cell? ⟨gP,32,none⟩=some (.int .i64 ep)):
 Calls Tryd.prog 19 #[.agg #[.pointer (some ⟨gC,0,none⟩),.int .i64 no,.int .i64 lf],.pointer (some ⟨gP,0,none⟩)] W fun e w'=>e= .returned (.bool (no==ep))∧Below W.heap.size W w':=by
 have d32:(W.alloc (.cells #[.pointer (some ⟨gC,0,none⟩),.int .i64 no,.int .i64 lf] 49)).cell? ⟨gP,32,none⟩=some (.int .i64 ep):=(((Below.refl W.heap.size W).alloc (Nat.le_refl _) _).cell (p:=⟨gP,32,none⟩) hp).trans hc
 go_enter Tryd.func19,Tryd.ntmps19
 go_wp2_with fail
 go_ret
 exact⟨rfl,(Below.refl _ W).alloc (Nat.le_refl _) _⟩
set_option maxHeartbeats 4000000 in
theorem index_any{w:World}{base gB:Nat}{b:BX}(h:BoxAt w base gB b)(gP:Nat)(ep:Int)(hp:gP<w.heap.size)(hc:w.cell? ⟨gP,32,none⟩=some (.int .i64 ep)):
 Calls Tryd.prog 18 #[b.v,.func (.func 19) #[] #[.pointer (some ⟨gP,0,none⟩)]] w fun e w'=>e= .returned (.int .i64 (findI b.m.es ep))∧Below w.heap.size w w':=by
 have eg:∀args w,(callFunc 19 args).run Tryd.prog w= .ok (.enter 19 args) w:=fun args w=>by kernel_rfl
 obtain⟨A,c,hv,-⟩:=rowS_shape h.row
 obtain⟨n,hn⟩:∃n,n=b.es.length:=⟨_,rfl⟩
 rw[←hn]at hv
 rw[hv]
 have HFs:=qq (show∀(k:Nat) (hk:k<b.es.length),(∀j (hj:j<k),(b.es[j]'(by omega)).no≠ep)→b.es[k].no=ep→findI b.m.es ep=(k:Int)from fun k hk h1 h2=>by
  unfold findI
  cases hf:findE b.m.es ep with
  |none=>exact absurd h2 (findE_none hf k hk)
  |some i=>
   obtain⟨hi,h3,h4⟩:=findE_some hf
   rcases Nat.lt_trichotomy i k with h5|h5|h5
   ·exact absurd h3 (h1 i h5)
   ·rw[h5]
   ·exact absurd h2 (h4 k h5))
 have HFn:=qq (show(∀j (hj:j<b.es.length),b.es[j].no≠ep)→findI b.m.es ep= -1 from fun h1=>by
  unfold findI
  cases hf:findE b.m.es ep with
  |none=>rfl
  |some i=>
   obtain⟨hi,h3,h4⟩:=findE_some hf
   exact absurd h3 (h1 i hi))
 have HR:=qq (show∀k (hk:k<b.es.length),∃g,A=some ⟨g,0,none⟩∧g<w.heap.size∧w.cell? ⟨g,k*3,none⟩=some (.pointer (some ⟨b.es[k].gC,0,none⟩))∧w.cell? ⟨g,k*3+1,none⟩=some (.int .i64 b.es[k].no)∧w.cell? ⟨g,k*3+2,none⟩=some (.int .i64 (b.es[k].leaf:Int))from fun k hk=>by
  obtain⟨g,c',hv',-,hgl,-⟩:=h.v_some (by omega)
  rw[hv]at hv'
  injection hv' with e1 e2 e3
  have hv2:b.v= .slice (some ⟨g,0,none⟩) n c:=by rw[hv,e1]
  obtain⟨a0,a1,a2⟩:=h.at_row hv2 (i:=k) hk
  exact⟨g,e1,hgl,a0,a1,a2⟩)
 have HN:=qq hn
 have hn5:n≤5:=by have:=h.many;omega
 obtain⟨F,hF⟩:∃F,F=findI b.m.es ep:=⟨_,rfl⟩
 rw[←hF]at HFs HFn ⊢
 have HC:=qq hc
 clear h hv hn hF hc
 go_enter Tryd.func18,Tryd.ntmps18
 go_wp2_with fail
 go_loopw [8] (fun iv wr=>∃k:Nat,k≤n∧iv= .int .i64 (k:Int)∧(∀j (hj:j<k) (h2:j<b.es.length),b.es[j].no≠ep)∧Below w.heap.size w wr) (fun iv _=>n-(intOf iv).toNat)
 case atStart=>exact⟨0,by omega,rfl,fun j hj=>absurd hj (by omega),Below.refl _ _⟩
 case round=>
  obtain⟨k,hk,rfl,hno,hb⟩:=hrel
  have HNo:=qq hno
  clear hno
  by_cases hlt:k<n
  ·have hkb:k<b.es.length:=by rw[←HN.out];exact hlt
   obtain⟨g,rfl,hgl,a0,a1,a2⟩:=HR.out k hkb
   obtain⟨no,hno⟩:∃no,no=(b.es[k]'hkb).no:=⟨_,rfl⟩
   rw[←hno]at a1
   have HNk:=qq hno
   have d0:=(hb.cell (p:=⟨g,k*3,none⟩) hgl).trans a0
   have d1:=(hb.cell (p:=⟨g,k*3+1,none⟩) hgl).trans a1
   have d2:=(hb.cell (p:=⟨g,k*3+2,none⟩) hgl).trans a2
   have hlt2:(k:Int)<(n:Int):=by omega
   have hsz:=hb.size
   have hcp:=(hb.cell (p:=⟨gP,32,none⟩) hp).trans HC.out
   generalize(b.es[k]'hkb).gC=gC at d0
   generalize(b.es[k]'hkb).leaf=lf at d2
   have HP:=qq (openPick_any wr gP ep no (lf:Int) gC (by omega) hcp)
   have HB:=qq hb
   clear hno a0 a1 a2 hb hcp
   by_cases he:no=ep
   ·have heb:(no==ep)=true:=by simp[he]
    rw[heb]at HP
    have HE:=qq he
    clear he heb
    go_wp2_with (go_at_fn 19;refine HP.out.mono ?_;rintro e w3 ⟨rfl,hb3⟩)
    go_ret
    exact⟨by rw[HFs.out k hkb (fun j hj=>HNo.out j hj (by omega)) (by rw[←HNk.out];exact HE.out)];rfl,HB.out.trans (hb3.mono HB.out.size)⟩
   ·have heb:(no==ep)=false:=by simp[he]
    rw[heb]at HP
    go_wp2_with (go_at_fn 19;refine HP.out.mono ?_;rintro e w3 ⟨rfl,hb3⟩)
    go_roundw
    case rel=>exact⟨k+1,by omega,by go_num,fun j hj h2=>by
     rcases Nat.lt_or_ge j k with h3|h3
     ·exact HNo.out j h3 h2
     ·have:j=k:=by omega
      subst this;rw[←HNk.out];exact he,HB.out.trans (hb3.mono HB.out.size)⟩
    case measure=>simp[intOf];omega
  ·obtain rfl:k=n:=by omega
   go_wp2
   go_ret
   exact⟨by rw[HFn.out (fun j hj=>HNo.out j (by rw[HN.out];exact hj) hj)];rfl,hb⟩
end Go.Proofs.YtelgjaiknaalkaaDoor
