/- Lemmas, joined and made smaller by a program. -/
import Derived.Test.YtelgjaiknaalkaaDoorPo26
import Derived.Test.YtelgjaiknaalkaaDoorPo35
import Derived.Test.YtelgjaiknaalkaaDoorPo37
import Derived.Test.YtelgjaiknaalkaaDoorPo06
import Derived.Lib.SlBytesConst
import Derived.Test.YtelgjaiknaalkaaDoorPo16
import Derived.Test.YtelgjaiknaalkaaDoorPo17
import Derived.Test.YtelgjaiknaalkaaDoorPo19
open Go.Lib renaming hid → qq
set_option linter.unusedVariables false
set_option linter.unusedSimpArgs false
namespace Go.Proofs.YtelgjaiknaalkaaDoor
theorem sealBad_zero{n c t:Nat}(h:sealBad n c t=0):n=12∧c≤1048576∧t≤1048576:=by
 unfold sealBad at h
 split at h
 ·cases h
 ·omega
theorem sealV_good(key nonce ctx text:List (BitVec 8))(h:sealBad nonce.length ctx.length text.length=0):sealV key nonce ctx text=mixV key nonce 1 text++tagOf key nonce ctx (mixV key nonce 1 text):=by unfold sealV;rw[if_pos h]
theorem sealV_len(key nonce ctx text:List (BitVec 8))(h:sealBad nonce.length ctx.length text.length=0):(sealV key nonce ctx text).length=text.length+16:=by
 have hz:=sealBad_zero h
 rw[sealV_good _ _ _ _ h,List.length_append,tagOf_len,(mixV_len1 key nonce text hz.1 (by omega)).2]
theorem open_seal(key nonce ctx text:List (BitVec 8))(h:sealBad nonce.length ctx.length text.length=0):openBad key nonce ctx (sealV key nonce ctx text)=0∧openV key nonce ctx (sealV key nonce ctx text)=text:=by
 have hz:=sealBad_zero h
 have hl:=sealV_len key nonce ctx text h
 have hm:=(mixV_len1 key nonce text hz.1 (by omega)).2
 have ht:(sealV key nonce ctx text).take ((sealV key nonce ctx text).length-16)=mixV key nonce 1 text:=by
  rw[hl,Nat.add_sub_cancel,sealV_good _ _ _ _ h,List.take_append_of_le_length (by omega),List.take_of_length_le (by omega)]
 have hd:(sealV key nonce ctx text).drop ((sealV key nonce ctx text).length-16)=tagOf key nonce ctx (mixV key nonce 1 text):=by
  rw[hl,Nat.add_sub_cancel,sealV_good _ _ _ _ h,List.drop_append_of_le_length (by omega),List.drop_of_length_le (by omega),List.nil_append]
 have hb:openBad key nonce ctx (sealV key nonce ctx text)=0:=by
  unfold openBad
  rw[ht,hd,hl,if_neg (by omega),if_neg (by omega),if_pos rfl]
 refine⟨hb,?_⟩
 unfold openV
 rw[if_pos hb,ht,mixV_back key nonce text hz.1 (by omega)]
end Go.Proofs.YtelgjaiknaalkaaDoor
namespace Go.Proofs.YtelgjaiknaalkaaDoor
open Go.RowKit
structure BStep(w w':World)(base gB:Nat)(b b':BX):Prop where
 box:BoxAt w' base gB b'
 frm:Frm w w' (BX.foot gB b)
 foot:∀k∈BX.foot gB b',k∈BX.foot gB b∨w.heap.size≤k
section
variable{w w':World}{base gA gB:Nat}{a b a' b':BX}
theorem BoxAt.less{base':Nat}(h:BoxAt w base gB b)(hb:base'≤base):BoxAt w base' gB b:=
 ⟨h.blk,h.glen,rowS_less h.row hb,h.ch,h.bnd,h.rise,h.many,h.nd,⟨Nat.le_trans hb h.low.1,fun k hk=>Nat.le_trans hb (h.low.2 k hk)⟩⟩
structure TwoAt(w:World)(base gA gB:Nat)(a b:BX):Prop where
 l:BoxAt w base gA a
 r:BoxAt w base gB b
 ne:∀k∈BX.foot gA a,k∉BX.foot gB b
theorem TwoAt.below(h:TwoAt w base gA gB a b)(hb:Below w.heap.size w w'):TwoAt w' base gA gB a b:=⟨h.l.below hb,h.r.below hb,h.ne⟩
theorem TwoAt.swap(h:TwoAt w base gA gB a b):TwoAt w base gB gA b a:=⟨h.r,h.l,fun k hk hm=>h.ne k hm hk⟩
theorem TwoAt.left(h:TwoAt w base gA gB a b)(s:BStep w w' base gA a a'):TwoAt w' base gA gB a' b:=
 ⟨s.box,h.r.frm s.frm (fun k hk hm=>h.ne k hm hk),fun k hk hm=>by
  rcases s.foot k hk with h1|h1
  ·exact h.ne k h1 hm
  ·have:=(h.r.foot_lt k hm).2;omega⟩
theorem TwoAt.right(h:TwoAt w base gA gB a b)(s:BStep w w' base gB b b'):TwoAt w' base gA gB a b':=(h.swap.left s).swap
theorem TwoAt.of_same(h:TwoAt w base gA gB a b)(hs:∀k,k∈BX.foot gA a∨k∈BX.foot gB b→w'.heap[k]?=w.heap[k]?):TwoAt w' base gA gB a b:=⟨h.l.of_same (fun k hk=>hs k (.inl hk)),h.r.of_same (fun k hk=>hs k (.inr hk)),h.ne⟩
theorem BStep.toBelow(s:BStep w w' base gB b b')(h:BoxAt w base gB b){w0:World}(hb:Below base w0 w):Below base w0 w':=
 Frm.toBelow hb s.frm (Nat.le_of_lt (Nat.lt_of_le_of_lt h.low.1 h.gB_lt)) (fun q hq=>(h.foot_lt q hq).1)
end
theorem TwoAt.fresh{w1 w2:World}{base gA gB:Nat}{c d:BX}(hA:BoxAt w1 gA gA c)(hB:BoxAt w2 gB gB d)(hw:w1.heap.size≤gB)(hbA:base≤gA)(hb:Below w1.heap.size w1 w2):TwoAt w2 base gA gB c d:=
 ⟨(hA.below hb).less hbA,hB.less (by have:=hA.gB_lt;omega),fun k hk hm=>by
   have h1:=(hA.foot_lt k hk).2
   have h2:=(hB.foot_lt k hm).1
   omega⟩
def exG(x:BitVec 8):List (BitVec 8):=x::List.replicate 31 0#8
theorem exG_len(x:BitVec 8):(exG x).length=32:=by simp[exG]
theorem startL_take(z:List (BitVec 8))(n:Int)(h0:0≤n)(h1:n≤256):takeE (startL z) n=0:=by
 have hh:hiM (startL z)= -1:=rfl
 have hl:(startL z).low=0:=rfl
 have hp:(startL z).place=0:=rfl
 unfold takeE
 rw[if_neg (by omega),if_neg (by rw[hh];omega),if_neg (by rw[hl];omega),if_neg (by show n∉ [];simp),if_neg (by rw[hp];omega)]
theorem takeE_asked{l:LineM}(k:LOK l){n:Int}(h0:takeE l n=0)(h1:l.low=0)(h2:l.place≤n+65):takeE (takeL l n) n=7:=by
 obtain⟨n0,n1,nh,nl,na,nf⟩:=takeE_zero h0
 have hhi:=(takeL_ok k h0).hi
 have hp:(takeL l n).place=if l.place≤n then n+1 else l.place:=rfl
 unfold takeE
 rw[if_neg (by omega),if_neg (by rw[hhi,hp];split<;>omega),if_neg (by show¬n<l.low;omega),if_pos (by show n∈l.asked++ [n];simp)]
theorem leafS_len(n i:Nat)(s:List (BitVec 8))(hs:s.length=32):(leafS n i s).length=32:=downS_len _ _ _ _ hs
end Go.Proofs.YtelgjaiknaalkaaDoor
namespace Go.Proofs.YtelgjaiknaalkaaDoor
open Go.RowKit
set_option maxRecDepth 100000
theorem enter_first(g s:List (BitVec 8))(no lv lf:Int)(hs:soundB lv=true)(h0:0≤lf)(h1:lf<lv)(n0:0≤no)(n1:no≤4294967295):
 enterE emptyM g no lv lf=0∧enterM emptyM g no lv lf s=⟨g,[⟨no,lf.toNat,newLs lv.toNat s⟩],false⟩:=by
 have h:enterE emptyM g no lv lf=0:=by
  unfold enterE emptyM
  rw[if_neg (by decide),if_neg (by rw[hs];simp;omega),if_neg (by omega),if_neg (by simp)]
 refine⟨h,?_⟩
 unfold enterM
 rw[if_pos h]
 rfl
theorem sealE_ok{b:BM}{l:LineM}{n:Nat}(hl:lastLine b.es=some l)(hn:n≤1024)(ht:takeE l l.place=0):sealE b n=0:=by
 unfold sealE;rw[hl];dsimp only;rw[if_neg (by omega),ht]
theorem sealP_ok{b:BM}{l:LineM}{text:List (BitVec 8)}(hl:lastLine b.es=some l)(hn:text.length≤1024)(ht:takeE l l.place=0):
 sealP b text=⟨b.grp,lastNo b.es,(lastLeaf b.es:Int),l.place,sealV (takeO l l.place).key (takeO l l.place).nonce (ctxV b.grp (lastNo b.es) (lastLeaf b.es:Int) l.place) text⟩:=by
 have h:=sealE_ok hl hn ht
 unfold sealP;rw[hl];dsimp only;rw[if_pos h]
theorem sealM_ok{b:BM}{l:LineM}{n:Nat}(hl:lastLine b.es=some l)(hn:n≤1024)(ht:takeE l l.place=0):sealM b n=⟨b.grp,setLine b.es (b.es.length-1) (lastLeaf b.es) (takeL l l.place),b.clr⟩:=by
 have h:=sealE_ok hl hn ht
 unfold sealM;rw[hl];dsimp only;rw[if_pos h]
theorem openE_at{b:BM}{p:PM}{i:Nat}{l:LineM}(hne:b.es≠ [])(hb:pkBad p.ep p.fr p.nu p.sl.length=false)(hl:p.sl.length≤1040)(hf:findE b.es p.ep=some i)(hg:p.grp=b.grp)(hfr:p.fr≠(leafAt b.es i:Int))(hla:lineAt b.es i p.fr.toNat=some l):
 openE b p=if takeE l p.nu≠0 then takeE l p.nu else openBad (takeO l p.nu).key (takeO l p.nu).nonce (ctxV p.grp p.ep p.fr p.nu) p.sl:=by
 unfold openE
 rw[if_neg hne,if_neg (by rw[hb];decide),if_neg (by omega),hf]
 dsimp only
 rw[if_neg (by simp[hg]),if_neg hfr,hla]
theorem pkLine_at{b:BM}{p:PM}{i:Nat}{l:LineM}(hf:findE b.es p.ep=some i)(hla:lineAt b.es i p.fr.toNat=some l):pkLine b p=some (i,l):=by
 unfold pkLine;rw[hf];dsimp only[Option.bind_some];rw[hla];rfl
theorem openT_at{b:BM}{p:PM}{i:Nat}{l:LineM}(hp:pkLine b p=some (i,l))(h0:openE b p=0):openT b p=openV (takeO l p.nu).key (takeO l p.nu).nonce (ctxV p.grp p.ep p.fr p.nu) p.sl:=by
 unfold openT;rw[hp];dsimp only;rw[if_pos h0]
theorem openM_at{b:BM}{p:PM}{i:Nat}{l:LineM}(hp:pkLine b p=some (i,l))(h0:openE b p=0):openM b p=⟨b.grp,setLine b.es i p.fr.toNat (takeL l p.nu),b.clr⟩:=by
 unfold openM;rw[hp];dsimp only;rw[if_pos h0]
theorem unsealed{l:LineM}(k:LOK l){n:Int}(ht:takeE l n=0){ctx text:List (BitVec 8)}(hc:ctx.length=41)(hl:text.length≤1048576):
 openBad (takeO l n).key (takeO l n).nonce ctx (sealV (takeO l n).key (takeO l n).nonce ctx text)=0∧openV (takeO l n).key (takeO l n).nonce ctx (sealV (takeO l n).key (takeO l n).nonce ctx text)=text∧(sealV (takeO l n).key (takeO l n).nonce ctx text).length=text.length+16:=by
 obtain⟨hk,hn⟩:=takeO_lens k ht
 have hs:sealBad (takeO l n).nonce.length ctx.length text.length=0:=by rw[hn,hc];unfold sealBad;rw[if_neg (by omega)]
 obtain⟨h1,h2⟩:=open_seal (takeO l n).key (takeO l n).nonce ctx text hs
 exact⟨h1,h2,sealV_len _ _ _ _ hs⟩
def m23a:BM:=⟨exG 1#8,[⟨0,0,newLs 2 (exG 2#8)⟩],false⟩
def m23b:BM:=⟨exG 1#8,[⟨0,1,newLs 2 (exG 2#8)⟩],false⟩
def hi23:List (BitVec 8):=[104#8,105#8]
def z23:List (BitVec 8):=leafS 2 0 (exG 2#8)
theorem z23_len:z23.length=32:=leafS_len _ _ _ (exG_len _)
def p23:PM:=⟨exG 1#8,0,0,0,sealV (takeO (startL z23) 0).key (takeO (startL z23) 0).nonce (ctxV (exG 1#8) 0 0 0) hi23⟩
theorem line23a:lastLine m23a.es=some (startL z23):=rfl
theorem line23b:lineAt m23b.es 0 p23.fr.toNat=some (startL z23):=rfl
theorem seal23a:sealE m23a 2=0∧sealP m23a hi23=p23:=by
 have ht:=startL_take z23 0 (by decide) (by decide)
 exact⟨sealE_ok line23a (by decide) ht,sealP_ok line23a (by decide) ht⟩
theorem p23_len:p23.sl.length=18:=by
 have h:=(unsealed (startL_ok z23 z23_len) (startL_take z23 0 (by decide) (by decide)) (ctxV_len (exG_len 1#8) 0 0 0) (text:=hi23) (by decide)).2.2
 exact h
theorem p23_plen(A:Option Addr)(n c:Nat):(packetC p23.grp p23.ep p23.fr p23.nu A n c).length=36:=pkC_len (exG_len 1#8) _ _ _ _ _ _
theorem open23b:openE m23b p23=0∧openT m23b p23=hi23∧openE (openM m23b p23) p23=7:=by
 have ht:=startL_take z23 0 (by decide) (by decide)
 have hu:=unsealed (startL_ok z23 z23_len) ht (ctxV_len (exG_len 1#8) 0 0 0) (text:=hi23) (by decide)
 have hf:findE m23b.es p23.ep=some 0:=rfl
 have h0:openE m23b p23=0:=by
  rw[openE_at (b:=m23b) (p:=p23) (i:=0) (l:=startL z23) (by unfold m23b;simp) (by rw[p23_len];rfl) (by rw[p23_len];decide) hf rfl (by decide) line23b]
  rw[if_neg (by show¬takeE (startL z23) 0≠0;rw[ht];decide)]
  exact hu.1
 have hp:=pkLine_at hf line23b
 refine⟨h0,by rw[openT_at hp h0];exact hu.2.1,?_⟩
 rw[openM_at hp h0]
 have ha:=takeE_asked (startL_ok z23 z23_len) ht rfl (by decide)
 rw[openE_at (i:=0) (l:=takeL (startL z23) 0) (by decide) (by rw[p23_len];rfl) (by rw[p23_len];decide) rfl rfl (by decide) rfl]
 rw[if_pos (by show takeE (takeL (startL z23) 0) 0≠0;rw[ha];decide)]
 exact ha
theorem Rd.newK{α:Type}(f:α→Value)(w:World)(E:TypeId)(fr:Nat×Nat)(xs:List α):Rd f (w.alloc (.cells (xs.map f).toArray E fr)) (w.heap.size+1) (some ⟨w.heap.size,0,none⟩) xs:=fun _=>
 ⟨w.heap.size,0,rfl,by omega,fun j u hu=>by
  rw[Nat.zero_add,cell_of_row _ w.heap.size j (xs.map f).toArray E fr (heap_alloc_new w _)]
  simp[hu]⟩
theorem enter_step{w:World}{base gB:Nat}{b:BX}(h:BoxAt w base gB b)(h4:b.es.length≤4)(hT:Tab w)(hb1:1<base)(grp s:List (BitVec 8))(hgl:grp.length=32)(hsl:s.length=32)(no leaves leaf:Int)(l0: -9223372036854775808≤leaves)(l1:leaves<9223372036854775808):
 Calls Tryd.prog 6 #[.pointer (some ⟨gB,0,none⟩),arrV b8 grp,.int .i64 no,arrV b8 s,.int .i64 leaves,.int .i64 leaf] w fun e w'=>e= .returned (errV (enterE b.m grp no leaves leaf))∧∃b',b'.m=enterM b.m grp no leaves leaf s∧BStep w w' base gB b b':=
 (enter_any h h4 hT hb1 grp s hgl hsl no leaves leaf l0 l1).mono fun e w' ⟨h1,b',h2,h3,h4,h5⟩=>⟨h1,b',h2,h3,h4,h5⟩
theorem seal_step{w:World}{base gB:Nat}{b:BX}(h:BoxAt w base gB b)(T:Option Addr)(m d Bm:Nat)(text:List (BitVec 8))(hr:Rd b8 w Bm T text)(hBm:Bm≤w.heap.size)(hTf:∀bt off,T=some ⟨bt,off,none⟩→bt∉b.efoot)(hm:text.length=m){P:PM}(hP:P=sealP b.m text):
 Calls Tryd.prog 7 #[.pointer (some ⟨gB,0,none⟩),.slice T m d] w fun e w'=>∃(A:Option Addr) (n c:Nat),e= .returned (.tuple #[.agg (packetC P.grp P.ep P.fr P.nu A n c).toArray,errV (sealE b.m m)])∧Own b8 w' w.heap.size 5 (.slice A n c) P.sl∧∃b',b'.m=sealM b.m m∧BStep w w' base gB b b'∧∀k,(Value.slice A n c).ownBlock=some k→k∉BX.foot gB b':=by
 subst hP
 exact(seal23_any h T m d Bm text hr hBm hTf hm).mono fun e w' ⟨A,n,c,h1,h2,b',h3,h4,h5,h6,h7⟩=>⟨A,n,c,h1,h2,b',h3,⟨h4,h5,h6⟩,h7⟩
theorem open_step{w:World}{base gB:Nat}{b:BX}(h:BoxAt w base gB b)(p:PM)(hg:p.grp.length=32)(A:Option Addr)(n c Bm:Nat)(hr:Rd b8 w Bm A p.sl)(hBm:Bm≤w.heap.size)(hn:p.sl.length=n)(hnc:n≤c)(hn63:n<9223372036854775808)
 (e1: -9223372036854775808≤p.ep)(e2:p.ep<9223372036854775808)(f1: -9223372036854775808≤p.fr)(f2:p.fr<9223372036854775808)(n1: -9223372036854775808≤p.nu)(n2:p.nu<9223372036854775808):
 Calls Tryd.prog 8 #[.pointer (some ⟨gB,0,none⟩),.agg (packetC p.grp p.ep p.fr p.nu A n c).toArray] w fun e w'=>∃v,e= .returned (.tuple #[v,errV (openE b.m p)])∧Own b8 w' w.heap.size 5 v (openT b.m p)∧∃b',b'.m=openM b.m p∧BStep w w' base gB b b'∧∀k,v.ownBlock=some k→k∉BX.foot gB b':=
 (open23_any h p hg A n c Bm hr hBm hn hnc hn63 e1 e2 f1 f2 n1 n2).mono fun e w' ⟨v,h1,h2,b',h3,h4,h5,h6,h7⟩=>⟨v,h1,h2,b',h3,⟨h4,h5,h6⟩,h7⟩
set_option maxHeartbeats 8000000 in
theorem alive23_any(w:World)(hT:Tab w):Calls Tryd.prog 4 #[] w fun e w'=>e= .returned (.bool true)∧Below w.heap.size w w':=by
 have hb1:∀w:World,(Instr.build 29 #[(0,Value.int .u8 1)]).run Tryd.prog w= .ok (.agg ((exG 1#8).map b8).toArray) w:=fun w=>run_build w _ _ _ (by kernel_rfl)
 have hb2:∀w:World,(Instr.build 29 #[(0,Value.int .u8 2)]).run Tryd.prog w= .ok (.agg ((exG 2#8).map b8).toArray) w:=fun w=>run_build w _ _ _ (by kernel_rfl)
 have hbase:=hT.lt
 go_enter Tryd.func4,Tryd.ntmps4
 go_wp2_with fail
 refine(boxNew_any _).mono ?_
 rintro e w1 ⟨rfl,hA,hk1⟩
 have HA:=qq hA
 have HK1:=qq hk1
 have hz1:=hA.gB_lt
 clear hA hk1
 go_wp2_with fail
 refine(boxNew_any _).mono ?_
 rintro e w2 ⟨rfl,hB,hk2⟩
 have HT2:=qq (TwoAt.fresh HA.out hB (Nat.le_refl _) (Nat.le_refl _) hk2)
 have HK2:=qq (HK1.out.trans (hk2.mono HK1.out.size))
 have hz2:=HT2.out.r.gB_lt
 have hTb:∀W,Below w.heap.size w W→Tab W:=fun W hb=>hT.below hb
 have HTb:=qq hTb
 clear hB hk2 hT hTb
 have e1:=enter_step HT2.out.l (by simp) (HTb.out _ HK2.out) hbase (exG 1#8) (exG 2#8) (exG_len _) (exG_len _) 0 2 0 (by decide) (by decide)
 have m1:=enter_first (exG 1#8) (exG 2#8) 0 2 0 rfl (by decide) (by decide) (by decide) (by decide)
 rw[show(BX.m ⟨List.replicate 32 0#8,.slice none 0 0,[],false⟩)=emptyM from rfl,m1.1,m1.2,errV_zero,arrV_mk,arrV_mk]at e1
 have HE1:=qq e1
 clear e1 m1
 go_wp2_with fail
 refine HE1.out.mono ?_
 rintro e w3 ⟨rfl,a3,hm3,hs3⟩
 have HT3:=qq (HT2.out.left hs3)
 have HM3:=qq (show a3.m=m23a from hm3)
 have HK3:=qq (hs3.toBelow HT2.out.l HK2.out)
 clear hm3 hs3
 have e1:=enter_step HT3.out.r (by simp) (HTb.out _ HK3.out) hbase (exG 1#8) (exG 2#8) (exG_len _) (exG_len _) 0 2 1 (by decide) (by decide)
 have m1:=enter_first (exG 1#8) (exG 2#8) 0 2 1 rfl (by decide) (by decide) (by decide) (by decide)
 rw[show(BX.m ⟨List.replicate 32 0#8,.slice none 0 0,[],false⟩)=emptyM from rfl,m1.1,m1.2,errV_zero,arrV_mk,arrV_mk]at e1
 have HE2:=qq e1
 clear e1 m1
 go_wp2_with fail
 refine HE2.out.mono ?_
 rintro e w4 ⟨rfl,b4,hm4,hs4⟩
 have HT4:=qq (HT3.out.right hs4)
 have HM4:=qq (show b4.m=m23b from hm4)
 have HK4:=qq (hs4.toBelow HT3.out.r HK3.out)
 clear hm4 hs4
 have kc:=fun(w:World) (C:Array Value) (n c:Nat)=>Lib.run_convert_bytes_const (P:=Tryd.prog) w 33 5 C n c Tryd.underlying33 Tryd.underlying5
 go_wp2_with fail
 have s1:=seal_step (w:=w4.alloc (.cells (hi23.map b8).toArray 5 (2,3))) (HT4.out.l.alloc _) (some ⟨w4.heap.size,0,none⟩) 2 2 (w4.heap.size+1) hi23 (Rd.newK b8 w4 5 (2,3) hi23) (by simp) (fun bt off e hm=>by
  injection e with e;injection e with e _ _
  subst e
  have:=(HT4.out.l.foot_lt _ (BX.efoot_sub _ _ _ hm)).2;omega) rfl (P:=p23) (by rw[HM3.out];exact seal23a.2.symm)
 rw[HM3.out,seal23a.1,errV_zero]at s1
 refine s1.mono ?_
 rintro e w5 ⟨A,n,c,rfl,hO,a5,-,hs5,-⟩
 obtain⟨A5,c5,e5,hr5,-,hc5,-⟩:=hO.shape' p23_len
 injection e5 with e4 e5 e6
 subst e4
 subst e5
 have HT5:=qq ((HT4.out.below ((Below.refl _ w4).alloc (Nat.le_refl _) _)).left hs5)
 have HK5:=qq (hs5.toBelow (HT4.out.l.alloc _) (HK4.out.alloc HK4.out.size _))
 have HR5:=qq hO.rd
 have hcc:18≤c:=by rw[e6];exact hc5
 have HAb:=qq (show∀bt off,A=some ⟨bt,off,none⟩→bt∉BX.foot w1.heap.size b4 from fun bt off e hm=>by
  have h5:=(hO.lt bt (by rw[e];rfl)).1
  have h6:=(HT4.out.r.foot_lt _ hm).2
  rw[World.size_alloc]at h5;omega)
 clear hO hs5 hr5 e6 s1 kc hc5
 have HZ5:=qq (show Blk (w5.alloc (.cells pkZ.toArray 35)) w5.heap.size 35 pkZ from Blk.new _ _ _)
 go_upto_region 5 with(refine wpList_store_piece rfl 35 (.tmp 3) (.tmp 27) rfl w5.heap.size 0 rfl (packetC p23.grp p23.ep p23.fr p23.nu A 18 c) rfl 35 _ [] pkZ [] HZ5.out (by simp) rfl (by rw[p23_plen];rfl) (by rw[p23_plen];exact sizePk) (pkC_one _ _ _ _ _ _ _) ?_;intro w6 hx6 hg6)
 have HP6:=qq (show Blk w6 w5.heap.size 35 (packetC p23.grp p23.ep p23.fr p23.nu A 18 c)from hx6.cast (by simp))
 have hb6:Below w5.heap.size w5 w6:=((Below.refl _ w5).alloc (Nat.le_refl _) _).grown hg6 (by simp) (fun k e=>by cases e;exact Nat.le_refl _)
 have HT6:=qq (HT5.out.below hb6)
 have HK6:=qq (HK5.out.trans (hb6.mono HK5.out.size))
 have HR6:=qq ((HR5.out.below hb6).more hb6.size)
 have c34:w6.cell? ⟨w5.heap.size,34,none⟩=some (.int .i64 0):=PkBox.c34 HP6.out (exG_len _)
 have c35:w6.cell? ⟨w5.heap.size,35,none⟩=some (.slice A 18 c):=PkBox.c35 HP6.out (exG_len _)
 have hz6:=HP6.out.lt
 clear hx6 hg6 hb6
 have HO1:=qq (show Calls Tryd.prog 8 #[.pointer (some ⟨w1.heap.size,0,none⟩),.agg (packetC p23.grp p23.ep p23.fr p23.nu A 18 c).toArray] w6 fun e w'=>∃v,e= .returned (.tuple #[v,.nilIface])∧Own b8 w' w6.heap.size 5 v hi23∧∃b',b'.m=openM m23b p23∧BStep w6 w' w.heap.size w1.heap.size b4 b'∧∀k,v.ownBlock=some k→k∉BX.foot w1.heap.size b' by
  have o1:=open_step HT6.out.r p23 (exG_len _) A 18 c w6.heap.size HR6.out (Nat.le_refl _) p23_len hcc (by decide) (by decide) (by decide) (by decide) (by decide) (by decide) (by decide)
  rw[HM4.out,open23b.1,open23b.2.1,errV_zero]at o1
  exact o1)
 go_wp2_with (refine wpList_load_mid rfl 35 (.tmp 3) rfl w5.heap.size 0 rfl (packetC p23.grp p23.ep p23.fr p23.nu A 18 c) _ HP6.out.whole Tryd.underlying35 rfl (by rw[p23_plen];exact sizePk) ?_)
 refine HO1.out.mono ?_
 rintro e w7 ⟨v7,rfl,ho7,b7,hm7,hs7,hn7⟩
 obtain⟨A7,c7,rfl,hr7,-,-,-⟩:=ho7.shape' (n:=2) rfl
 have HT7:=qq (HT6.out.right hs7)
 have HK7:=qq (hs7.toBelow HT6.out.r HK6.out)
 have HM7:=qq hm7
 have HO7:=qq ho7
 have HP7:=qq (show Blk w7 w5.heap.size 35 (packetC p23.grp p23.ep p23.fr p23.nu A 18 c)from(hs7.frm.block _ hz6 (HT6.out.r.typed_out HP6.out (by decide) (by decide) (by decide) (by decide) (by decide))).trans HP6.out)
 have HR7:=qq (show Rd b8 w7 w6.heap.size A p23.sl from rd_frm HR6.out (Nat.le_refl _) hs7.frm HAb.out)
 have hz7:=hs7.frm.size
 clear hm7 hs7 ho7 hr7
 have HO2:=qq (show Calls Tryd.prog 8 #[.pointer (some ⟨w1.heap.size,0,none⟩),.agg (packetC p23.grp p23.ep p23.fr p23.nu A 18 c).toArray] w7 fun e w'=>∃v,e= .returned (.tuple #[v,.iface 41 (.int .i64 7)])∧Own b8 w' w7.heap.size 5 v (openT b7.m p23)∧∃b',b'.m=openM b7.m p23∧BStep w7 w' w.heap.size w1.heap.size b7 b'∧∀k,v.ownBlock=some k→k∉BX.foot w1.heap.size b' by
  have o1:=open_step HT7.out.r p23 (exG_len _) A 18 c w6.heap.size HR7.out hz7 p23_len hcc (by decide) (by decide) (by decide) (by decide) (by decide) (by decide) (by decide)
  rw[show openE b7.m p23=7 by rw[HM7.out];exact open23b.2.2]at o1
  exact o1)
 go_wp2_with (refine wpList_load_mid rfl 35 (.tmp 3) rfl w5.heap.size 0 rfl (packetC p23.grp p23.ep p23.fr p23.nu A 18 c) _ HP7.out.whole Tryd.underlying35 rfl (by rw[p23_plen];exact sizePk) ?_)
 refine HO2.out.mono ?_
 rintro e w8 ⟨v8,rfl,ho8,b8',-,hs8,-⟩
 obtain⟨A8,c8,e8,-⟩:=ho8.shape
 obtain⟨n8,hn8⟩:∃n8,n8=(openT b7.m p23).length:=⟨_,rfl⟩
 rw[←hn8]at e8
 subst e8
 have HK8:=qq (hs8.toBelow HT7.out.r HK7.out)
 have HR8:=qq (show Rd b8 w8 w7.heap.size A7 hi23 from rd_frm HO7.out.rd (Nat.le_refl _) hs8.frm (fun bt off e hm=>hn7 bt (by rw[e];rfl) hm))
 have hr1:(convert 33 9 (.slice A7 2 c7)).run Tryd.prog w8= .ok (.string (str hi23)) w8:=run_str (P:=Tryd.prog) HR8.out 33 9 5 c7 Tryd.underlying33 Tryd.underlying5 Tryd.underlying9
 have hst:(str hi23).toList=[104,105]:=by rw[ByteArray.toList_eq,str_toList];rfl
 clear hs8 ho8 hn8
 go_wp2_with fail
 refine(is_any 7 7 _).mono ?_
 rintro e w9 ⟨rfl,rfl⟩
 go_wp2_with fail
 go_ret
 exact⟨rfl,HK8.out⟩
end Go.Proofs.YtelgjaiknaalkaaDoor
namespace Go.Proofs.YtelgjaiknaalkaaDoor
open Go.RowKit
def lineJ(z:List (BitVec 8))(j:Nat):LineM:=⟨linkAt z j,(j:Int),[],(List.range j).map Int.ofNat,0⟩
theorem hiA_range(j:Nat):hiA ((List.range j).map Int.ofNat) 0=(j:Int)-1:=by
 induction j with
 |zero=>rfl
 |succ j ih=>
  rw[List.range_succ,List.map_append,List.map_singleton,hiA_snoc,ih]
  show(if(j:Int)-1<(j:Int)then(j:Int)else _)=_
  rw[if_pos (by omega)];omega
theorem lineJ_takeE(z:List (BitVec 8))(j:Nat)(hj:j≤1000):takeE (lineJ z j) (j:Int)=0:=by
 have hm:¬(j:Int)∈ (List.range j).map Int.ofNat:=by
  intro h
  obtain⟨a,ha,e⟩:=List.mem_map.1 h
  have:=List.mem_range.1 ha
  have e2:(a:Int)=(j:Int):=e
  omega
 have hh:hiM (lineJ z j)=(j:Int)-1:=hiA_range j
 unfold takeE
 rw[if_neg (by omega),if_neg (by rw[hh];omega),if_neg (show¬(j:Int)<(lineJ z j).low from by show¬(j:Int)<0;omega),if_neg (show¬(j:Int)∈ (lineJ z j).asked from hm),if_neg (show¬((lineJ z j).place<(j:Int)∧_)from by show¬((j:Int)<(j:Int)∧_);omega)]
theorem lineJ_takeO(z:List (BitVec 8))(j:Nat)(hj:j≤1000):takeO (lineJ z j) (j:Int)=ofL (linkAt z j) (j:Int):=
 takeO_run (l:=lineJ z j) (n:=(j:Int)) (k:=0) (by show(j:Int)=(j:Int)+((0:Nat):Int);omega) (lineJ_takeE z j hj)
theorem lineJ_takeL(z:List (BitVec 8))(j:Nat):takeL (lineJ z j) (j:Int)=lineJ z (j+1):=by
 have e1:((j:Int)+1-(lineJ z j).place).toNat=1:=by show((j:Int)+1-(j:Int)).toNat=1;omega
 unfold takeL heldTo
 rw[e1]
 have hf:((lineJ z j).held++runL (lineJ z j).link (lineJ z j).place 1).filter (keepO (j:Int) (hiA ((lineJ z j).asked++ [(j:Int)]) (lineJ z j).low))=[]:=by
  rw[List.filter_eq_nil_iff]
  intro o ho
  rw[show(lineJ z j).held=[]from rfl,List.nil_append]at ho
  obtain⟨q,hq,rfl⟩:=(mem_runL _ _ _ _).1 ho
  have hq0:q=0:=by omega
  subst hq0
  unfold keepO
  rw[ofL_no]
  have hp:(lineJ z j).place=(j:Int):=rfl
  rw[hp]
  simp
 rw[hf,if_pos (show(lineJ z j).place≤(j:Int)from Int.le_refl _)]
 unfold lineJ
 rw[List.range_succ,List.map_append]
 rfl
end Go.Proofs.YtelgjaiknaalkaaDoor
namespace Go.Proofs.YtelgjaiknaalkaaDoor
open Go.RowKit Go.Maps
structure OfZ(z:List (BitVec 8))(l:LineM):Prop where
 low:l.low=0
 link:l.link=linkAt z l.place.toNat
 held:∀o∈l.held,o=ofL (linkAt z o.no.toNat) o.no
theorem OfZ.start(z:List (BitVec 8)):OfZ z (startL z):=⟨rfl,rfl,fun o ho=>by cases ho⟩
theorem OfZ.takeO{z:List (BitVec 8)}{l:LineM}(h:OfZ z l)(k:LOK l){n:Int}(hE:takeE l n=0):takeO l n=ofL (linkAt z n.toNat) n:=by
 have hl:=k.lowp
 have h0:=k.low0
 by_cases hlo:n<l.place
 ·obtain⟨n0,n1,nh,nl,na,nf⟩:=takeE_zero hE
  have hk:=k.hi
  obtain⟨o,ho,he⟩:=k.all n nl hlo na (by omega)
  rw[takeO_low k hlo hE ho he,h.held o ho,he]
 ·rw[takeO_run (k:=(n-l.place).toNat) (by omega) hE,h.link,linkAt_add]
  congr 2;omega
theorem OfZ.takeL{z:List (BitVec 8)}{l:LineM}(h:OfZ z l)(k:LOK l){n:Int}(hE:takeE l n=0):OfZ z (takeL l n):=by
 have hl:=k.lowp
 have h0:=k.low0
 by_cases hlo:n<l.place
 ·rw[takeL_low k hlo hE]
  exact⟨h.low,h.link,fun o ho=>h.held o (List.mem_filter.1 ho).1⟩
 ·obtain⟨q,hq⟩:∃q:Nat,n=l.place+(q:Int):=⟨(n-l.place).toNat,by omega⟩
  rw[takeL_run k hq hE]
  refine⟨h.low,?_,fun o ho=>?_⟩
  ·dsimp only
   rw[h.link,linkAt_add]
   congr 1;omega
  ·rcases List.mem_append.1 (List.mem_filter.1 ho).1 with h1|h1
   ·exact h.held o h1
   ·obtain⟨j,hj,rfl⟩:=(mem_runL _ _ _ _).1 h1
    rw[ofL_no,h.link,linkAt_add]
    congr 2;omega
theorem takeL_place{l:LineM}{n:Int}:(takeL l n).place=if l.place≤n then n+1 else l.place:=rfl
end Go.Proofs.YtelgjaiknaalkaaDoor
