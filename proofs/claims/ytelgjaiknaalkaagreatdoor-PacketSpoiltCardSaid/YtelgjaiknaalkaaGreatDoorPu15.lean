/- Lemmas. -/
import Derived.Test.YtelgjaiknaalkaaGreatDoorPu14
open Go.Proofs.Tryz
open List renaming set_cons_zero → qz
open List renaming set_cons_succ → qv
open List renaming getD → QR, take_of_length_le → Js, getElem?_eq_none → JH, map_cons → Jd, map_nil → Jt, mem_append → QS, mem_singleton → Je, length_append → QO, replicate → QL, length_replicate → Jz, length_set → Jy, mem_of_mem_take → J5, length_take → QV, range → Q6, length_drop → Jf, length_map → QN, getElem?_eq_getElem → QT, append_assoc → Jb, mem_map → QW, length_cons → Jr, length_nil → JE
open Nat renaming lt_or_ge → Jo, pow_succ → JB, mul_assoc → JY, mul_add → JN, le_refl → QI, mul_comm → Jw, min_eq_left → JJ, pow_le_pow_right → J7, mod_eq_of_lt → JP
open Go.RowKit.Below renaming refl → QK
open Go.World renaming size_alloc → QQ
open BitVec renaming toNat → JO, ofNat → QP, toNat_ofNat → Q8
open Option.some renaming inj → Ju
set_option linter.unusedVariables false
set_option linter.unusedSimpArgs false
set_option maxRecDepth 100000
set_option maxHeartbeats 8000000
namespace Go.Proofs.YtelgjaiknaalkaaGreatDoor
section
open Go.RowKit
def dig(xs:List Nat)(k:Nat):Nat:=xs.getD k 0
theorem ze{xs:List Nat}(h:zP xs)(k:Nat):dig xs k<256:=by
 unfold dig QR;cases e:xs[k]? with
 |none=>simp
 |some v=>exact h v (List.mem_of_getElem? e)
theorem qae(xs:List Nat)(k:Nat):qC (xs.take (k+1))=qC (xs.take k)+256^k*dig xs k:=by
 rcases Jo k xs.length with h|h
 ·rw[qbh xs k h];simp[dig,QR,h]
 ·rw[Js (by omega),Js h]
  simp[dig,QR,JH h]
theorem qbq(zs xs ys:List Nat)(k cr s:Nat)(hk:zs.length=k)(hs:s=cr+dig xs k+dig ys k)(h:qC zs+256^k*cr=qC (xs.take k)+qC (ys.take k)):
 qC (zs++ [s % 256])+256^(k+1)*(s/256)=qC (xs.take (k+1))+qC (ys.take (k+1)):=by
 rw[up,hk,qae,qae,JB,JY,Nat.add_assoc,←JN,Nat.mod_add_div,hs,JN,JN];omega
theorem kS(w:World)(B1 n1 c1 B2 n2 c2:Nat)(A1 A2:Option Addr)(xs ys:List Nat)(hr1:Rd dN w B1 A1 xs)(hB1:B1≤w.heap.size)(hn1:n1=xs.length)(hr2:Rd dN w B2 A2 ys)(hB2:B2≤w.heap.size)(hn2:n2=ys.length)(hd1:zP xs)(hd2:zP ys)(hb1:n1≤1000)(hb2:n2≤1000):
 Calls prog 125 #[.slice A1 n1 c1,.slice A2 n2 c2] w fun e w'=>∃v zs,e= .returned v∧Own dN w' w.heap.size 3 v zs∧zP zs∧qC zs=qC xs+qC ys∧zs.length≤max n1 n2+1∧Below w.heap.size w w':=by
 obtain⟨i0,hi0,hz0,hz1,hz2⟩:=info_parts qbg;have R1:=qe (hr1.more hB1);have R2:=qe (hr2.more hB2);have N1:=qe hn1;have N2:=qe hn2;have D1:=qe hd1;have D2:=qe hd2;clear hr1 hr2 hn1 hn2 hB1 hB2 hd1 hd2;go_enter func125,ntmps125
 go_wp2_with fail
 go_loopw [5,6,7,8] (fun v cv iv _ wr=>∃(k cr:Nat) (zs:List Nat),k≤max n1 n2+1∧iv= .int .i64 (k:Int)∧cv= .int .i64 (cr:Int)∧cr≤1∧(max n1 n2<k→cr=0)∧zs.length=k∧zP zs∧qC zs+256^k*cr=qC (xs.take k)+qC (ys.take k)∧Own dN wr w.heap.size 3 v zs∧Below w.heap.size w wr) (fun _ _ iv _ _=>max n1 n2+2-(intOf iv).toNat)
 case atStart=>exact⟨0,0,[],by omega,rfl,rfl,by omega,by simp,rfl,fun x hx=>by simp at hx,by simp[qC],Own.nil_ _ _ _ _,QK _ _⟩
 case round=>
  obtain⟨k,cr,zs,hk,rfl,rfl,hcr,hcz,hl,hd,hv,ho,hb⟩:=hrel;obtain⟨Ao,co,rfl,-,-,-,-⟩:=ho.shape' (n:=k) hl;have HO:=qe ho;have HB:=qe hb;have HL:=qe hl;have HD:=qe hd;have HV:=qe hv;have HC:=qe hcz;have hz:=hb.size;clear ho hb hl hd hv hcz;by_cases h1:k<n1
  ·obtain⟨b1,o1,rfl,hbb1,hc1⟩:=(R1.1.below HB.1).at_ (k:=k) (by rw[←N1.1];omega)
   obtain⟨x,hx⟩:∃x,x=xs[k]'(by rw[←N1.1];omega):=⟨_,rfl⟩;have hxd:dig xs k=x:=by rw[hx];simp[dig,QR,show k<xs.length by rw[←N1.1];omega]
   rw[←hx]at hc1;have hc1':wr.cell? ⟨b1,o1+k,none⟩=some (.int .i64 (x:Int)):=hc1;have h1':(k:Int)<(n1:Int):=by omega
   clear hc1 hx;by_cases h2:k<n2
   ·obtain⟨b2,o2,rfl,hbb2,hc2⟩:=(R2.1.below HB.1).at_ (k:=k) (by rw[←N2.1];omega)
    obtain⟨y,hy⟩:∃y,y=ys[k]'(by rw[←N2.1];omega):=⟨_,rfl⟩;have hyd:dig ys k=y:=by rw[hy];simp[dig,QR,show k<ys.length by rw[←N2.1];omega]
    rw[←hy]at hc2;have hc2':wr.cell? ⟨b2,o2+k,none⟩=some (.int .i64 (y:Int)):=hc2;have h2':(k:Int)<(n2:Int):=by omega
    clear hc2 hy;obtain⟨s,hs⟩:∃s,s=cr+dig xs k+dig ys k:=⟨_,rfl⟩;have hsx:=ze D1.1 k;have hsy:=ze D2.1 k;have hsb:s≤1000:=by omega
    have hq:(cr:Int)+(x:Int)+(y:Int)=(s:Int):=by omega
    have HS:=qe (qbq zs xs ys k cr s HL.1 hs HV.1);have HRx:=qe (show∀W:World,Rd dN (W.alloc (.cells #[.int .i64 ((s:Int) % 256)] 3)) (W.heap.size+1) (some ⟨W.heap.size,0,none⟩) [s % 256]from fun W=>by
     have h:=Rd.new dN W 3 [s % 256];rw[Jd,Jt,show dN (s % 256)= .int .i64 ((s:Int) % 256)from by unfold dN;rw[Int.natCast_emod];rfl]at h;exact h)
    have HD':=qe (show zP (zs++ [s % 256])from fun x hx=>by
     rcases QS.1 hx with h|h
     ·exact HD.1 x h
     ·rw[Je.1 h];omega)
    have HC1:=qe (show s/256≤1∧(max n1 n2<k+1→s/256=0) by
     refine⟨by omega,fun h=>?_⟩;have h1:dig xs k+dig ys k=0∨k<max n1 n2:=by
      rcases Jo k (max n1 n2)with h'|h'
      ·exact .inr h'
      ·refine .inl ?_
       have g1:dig xs k=0:=by unfold dig;rw[QR,JH (by rw[←N1.1];omega)];rfl
       have g2:dig ys k=0:=by unfold dig;rw[QR,JH (by rw[←N2.1];omega)];rfl
       omega
     omega)
    clear hs hsx hsy;go_wp2_with (at_builtin;refine qh rfl (.tmp 46) (.tmp 49) 70 rfl vU w.heap.size 3 i0 _ 8 underlying70 hi0 hz0 hz1 hz2 rfl _ _ rfl (HO.1.alloc _) (wr.heap.size+1) _ 1 1 [s % 256] rfl rfl (HRx.1 wr) (by have:=HL.1;simp[maxLen];omega) (by have:=HL.1;simp;omega) (by(first|omega|(simp;done)|(simp;omega)|(simp at*;omega))) ?_;intro v7 w7 hown7 hg7 hbb7)
    go_roundw
    case rel=>exact⟨k+1,s/256,zs++ [s % 256],by omega,by simp,by simp,HC1.1.1,HC1.1.2,by rw[QO,HL.1];rfl,HD'.1,HS.1,hown7,hbb7 _ _ (QI _) (HB.1.alloc (by omega) _)⟩
    case measure=>simp[intOf];omega
   ·have h2':¬((k:Int)<(n2:Int)):=by omega
    have hyd:dig ys k=0:=by unfold dig;rw[QR,JH (by rw[←N2.1];omega)];rfl
    obtain⟨s,hs⟩:∃s,s=cr+dig xs k+dig ys k:=⟨_,rfl⟩;have hsx:=ze D1.1 k;have hsy:=ze D2.1 k;have hsb:s≤1000:=by omega
    have hq:(cr:Int)+(x:Int)=(s:Int):=by omega
    have HS:=qe (qbq zs xs ys k cr s HL.1 hs HV.1);have HRx:=qe (show∀W:World,Rd dN (W.alloc (.cells #[.int .i64 ((s:Int) % 256)] 3)) (W.heap.size+1) (some ⟨W.heap.size,0,none⟩) [s % 256]from fun W=>by
     have h:=Rd.new dN W 3 [s % 256];rw[Jd,Jt,show dN (s % 256)= .int .i64 ((s:Int) % 256)from by unfold dN;rw[Int.natCast_emod];rfl]at h;exact h)
    have HD':=qe (show zP (zs++ [s % 256])from fun x hx=>by
     rcases QS.1 hx with h|h
     ·exact HD.1 x h
     ·rw[Je.1 h];omega)
    have HC1:=qe (show s/256≤1∧(max n1 n2<k+1→s/256=0) by
     refine⟨by omega,fun h=>?_⟩;have h1:dig xs k+dig ys k=0∨k<max n1 n2:=by
      rcases Jo k (max n1 n2)with h'|h'
      ·exact .inr h'
      ·refine .inl ?_
       have g1:dig xs k=0:=by unfold dig;rw[QR,JH (by rw[←N1.1];omega)];rfl
       have g2:dig ys k=0:=by unfold dig;rw[QR,JH (by rw[←N2.1];omega)];rfl
       omega
     omega)
    clear hs hsx hsy;go_wp2_with (at_builtin;refine qh rfl (.tmp 46) (.tmp 49) 70 rfl vU w.heap.size 3 i0 _ 8 underlying70 hi0 hz0 hz1 hz2 rfl _ _ rfl (HO.1.alloc _) (wr.heap.size+1) _ 1 1 [s % 256] rfl rfl (HRx.1 wr) (by have:=HL.1;simp[maxLen];omega) (by have:=HL.1;simp;omega) (by(first|omega|(simp;done)|(simp;omega)|(simp at*;omega))) ?_;intro v7 w7 hown7 hg7 hbb7)
    go_roundw
    case rel=>exact⟨k+1,s/256,zs++ [s % 256],by omega,by simp,by simp,HC1.1.1,HC1.1.2,by rw[QO,HL.1];rfl,HD'.1,HS.1,hown7,hbb7 _ _ (QI _) (HB.1.alloc (by omega) _)⟩
    case measure=>simp[intOf];omega
  ·have h1':¬((k:Int)<(n1:Int)):=by omega
   have hxd:dig xs k=0:=by unfold dig;rw[QR,JH (by rw[←N1.1];omega)];rfl
   by_cases h2:k<n2
   ·obtain⟨b2,o2,rfl,hbb2,hc2⟩:=(R2.1.below HB.1).at_ (k:=k) (by rw[←N2.1];omega)
    obtain⟨y,hy⟩:∃y,y=ys[k]'(by rw[←N2.1];omega):=⟨_,rfl⟩;have hyd:dig ys k=y:=by rw[hy];simp[dig,QR,show k<ys.length by rw[←N2.1];omega]
    rw[←hy]at hc2;have hc2':wr.cell? ⟨b2,o2+k,none⟩=some (.int .i64 (y:Int)):=hc2;have h2':(k:Int)<(n2:Int):=by omega
    clear hc2 hy;obtain⟨s,hs⟩:∃s,s=cr+dig xs k+dig ys k:=⟨_,rfl⟩;have hsx:=ze D1.1 k;have hsy:=ze D2.1 k;have hsb:s≤1000:=by omega
    have hq:(cr:Int)+(y:Int)=(s:Int):=by omega
    have HS:=qe (qbq zs xs ys k cr s HL.1 hs HV.1);have HRx:=qe (show∀W:World,Rd dN (W.alloc (.cells #[.int .i64 ((s:Int) % 256)] 3)) (W.heap.size+1) (some ⟨W.heap.size,0,none⟩) [s % 256]from fun W=>by
     have h:=Rd.new dN W 3 [s % 256];rw[Jd,Jt,show dN (s % 256)= .int .i64 ((s:Int) % 256)from by unfold dN;rw[Int.natCast_emod];rfl]at h;exact h)
    have HD':=qe (show zP (zs++ [s % 256])from fun x hx=>by
     rcases QS.1 hx with h|h
     ·exact HD.1 x h
     ·rw[Je.1 h];omega)
    have HC1:=qe (show s/256≤1∧(max n1 n2<k+1→s/256=0) by
     refine⟨by omega,fun h=>?_⟩;have h1:dig xs k+dig ys k=0∨k<max n1 n2:=by
      rcases Jo k (max n1 n2)with h'|h'
      ·exact .inr h'
      ·refine .inl ?_
       have g1:dig xs k=0:=by unfold dig;rw[QR,JH (by rw[←N1.1];omega)];rfl
       have g2:dig ys k=0:=by unfold dig;rw[QR,JH (by rw[←N2.1];omega)];rfl
       omega
     omega)
    clear hs hsx hsy;go_wp2_with (at_builtin;refine qh rfl (.tmp 46) (.tmp 49) 70 rfl vU w.heap.size 3 i0 _ 8 underlying70 hi0 hz0 hz1 hz2 rfl _ _ rfl (HO.1.alloc _) (wr.heap.size+1) _ 1 1 [s % 256] rfl rfl (HRx.1 wr) (by have:=HL.1;simp[maxLen];omega) (by have:=HL.1;simp;omega) (by(first|omega|(simp;done)|(simp;omega)|(simp at*;omega))) ?_;intro v7 w7 hown7 hg7 hbb7)
    go_roundw
    case rel=>exact⟨k+1,s/256,zs++ [s % 256],by omega,by simp,by simp,HC1.1.1,HC1.1.2,by rw[QO,HL.1];rfl,HD'.1,HS.1,hown7,hbb7 _ _ (QI _) (HB.1.alloc (by omega) _)⟩
    case measure=>simp[intOf];omega
   ·have h2':¬((k:Int)<(n2:Int)):=by omega
    have hyd:dig ys k=0:=by unfold dig;rw[QR,JH (by rw[←N2.1];omega)];rfl
    by_cases h0:cr=0
    ·subst h0
     go_wp2_with fail
     go_ret;exact⟨_,rfl,zs,HO.1,HD.1,by have h:=HV.1;rw[j4 xs k (by rw[←N1.1];omega),j4 ys k (by rw[←N2.1];omega)]at h;omega,by rw[HL.1];exact hk,HB.1⟩
    ·have h0':(cr:Int)>0:=by omega
     have hkm:k<max n1 n2+1:=by
      rcases Jo (max n1 n2) k with h|h
      ·exact absurd (HC.1 h) h0
      ·omega
     obtain⟨s,hs⟩:∃s,s=cr+dig xs k+dig ys k:=⟨_,rfl⟩;have hsx:=ze D1.1 k;have hsy:=ze D2.1 k;have hsb:s≤1000:=by omega
     have hq:(cr:Int)=(s:Int):=by omega
     have HS:=qe (qbq zs xs ys k cr s HL.1 hs HV.1);have HRx:=qe (show∀W:World,Rd dN (W.alloc (.cells #[.int .i64 ((s:Int) % 256)] 3)) (W.heap.size+1) (some ⟨W.heap.size,0,none⟩) [s % 256]from fun W=>by
      have h:=Rd.new dN W 3 [s % 256];rw[Jd,Jt,show dN (s % 256)= .int .i64 ((s:Int) % 256)from by unfold dN;rw[Int.natCast_emod];rfl]at h;exact h)
     have HD':=qe (show zP (zs++ [s % 256])from fun x hx=>by
      rcases QS.1 hx with h|h
      ·exact HD.1 x h
      ·rw[Je.1 h];omega)
     have HC1:=qe (show s/256≤1∧(max n1 n2<k+1→s/256=0) by
      refine⟨by omega,fun h=>?_⟩;have h1:dig xs k+dig ys k=0∨k<max n1 n2:=by
       rcases Jo k (max n1 n2)with h'|h'
       ·exact .inr h'
       ·refine .inl ?_
        have g1:dig xs k=0:=by unfold dig;rw[QR,JH (by rw[←N1.1];omega)];rfl
        have g2:dig ys k=0:=by unfold dig;rw[QR,JH (by rw[←N2.1];omega)];rfl
        omega
      omega)
     clear hs hsx hsy;go_wp2_with (at_builtin;refine qh rfl (.tmp 46) (.tmp 49) 70 rfl vU w.heap.size 3 i0 _ 8 underlying70 hi0 hz0 hz1 hz2 rfl _ _ rfl (HO.1.alloc _) (wr.heap.size+1) _ 1 1 [s % 256] rfl rfl (HRx.1 wr) (by have:=HL.1;simp[maxLen];omega) (by have:=HL.1;simp;omega) (by(first|omega|(simp;done)|(simp;omega)|(simp at*;omega))) ?_;intro v7 w7 hown7 hg7 hbb7)
     go_roundw
     case rel=>exact⟨k+1,s/256,zs++ [s % 256],by omega,by simp,by simp,HC1.1.1,HC1.1.2,by rw[QO,HL.1];rfl,HD'.1,HS.1,hown7,hbb7 _ _ (QI _) (HB.1.alloc (by omega) _)⟩
     case measure=>simp[intOf];omega
theorem qja{w:World}{B N:Nat}{v:Value}(h:w.ownsRow B 3 1 v N (madeCells (Value.int .i64 0).cells (N*1)).toList):Own dN w B 3 v (QL N 0):=by
 unfold Own;rw[Jz];have e:(madeCells (Value.int .i64 0).cells (N*1)).toList=QL N (dN 0):=by rw[Nat.mul_one];exact toList_madeCells_one _ _
 rw[e]at h;rw[List.map_replicate];exact h
theorem qes:∀(xs:List Nat) (k y:Nat),k<xs.length→qC (xs.set k y)+256^k*dig xs k=qC xs+256^k*y
 | [],k,y,h=>by simp at h
 |x::xs,0,y,_=>by simp[qC,dig];omega
 |x::xs,k+1,y,h=>by
  have ih:=qes xs k y (by simpa using h);have e:dig (x::xs) (k+1)=dig xs k:=by simp[dig]
  rw[e];simp only[qv,qC,JB];rw[Jw (256^k) 256,JY,JY];omega
theorem qaP:∀(xs:List Nat) (k:Nat),256^k*dig xs k≤qC xs
 | [],k=>by simp[dig,qC]
 |x::xs,0=>by simp[dig,qC]
 |x::xs,k+1=>by
  have ih:=qaP xs k;have e:dig (x::xs) (k+1)=dig xs k:=by simp[dig]
  rw[e];simp only[qC,JB];rw[Jw (256^k) 256,JY];omega
theorem qbi{xs:List Nat}(h:zP xs)(k:Nat){y:Nat}(hy:y<256):zP (xs.set k y):=by
 intro x hx;rcases List.mem_or_eq_of_mem_set hx with h'|h'
 ·exact h x h'
 ·rw[h'];exact hy
theorem qet(os:List Nat)(i j cr a y n V W:Nat)(hl:i+j<os.length)(hn:n=dig os (i+j)+cr+a*y)(h:qC os+256^(i+j)*cr=V+256^i*(a*W)):
 qC (os.set (i+j) (n % 256))+256^(i+(j+1))*(n/256)=V+256^i*(a*(W+256^j*y)):=by
 have h1:=qes os (i+j) (n % 256) hl;have h2:256^(i+j)*(n % 256)+256^(i+(j+1))*(n/256)=256^(i+j)*n:=by
  rw[←Nat.add_assoc,JB,JY,←JN,Nat.mod_add_div]
 have h3:256^(i+j)*n=256^(i+j)*dig os (i+j)+256^(i+j)*cr+256^(i+j)*(a*y):=by rw[hn,JN,JN]
 have h4:256^i*(a*(W+256^j*y))=256^i*(a*W)+256^(i+j)*(a*y):=by
  rw[JN,JN,Nat.pow_add,Nat.mul_left_comm a (256^j) y,JY]
 omega
theorem qlr(os:List Nat)(m cr n T:Nat)(hn:n=dig os m+cr)(h:qC os+256^m*cr=T)(hT:T<256^(m+1)):n/256=0:=by
 have h1:=qaP os m;have h2:256^m*n≤T:=by rw[hn,JN,←h];omega
 have h3:256^m*n<256^m*256:=by rw[←JB];omega
 have h4:n<256:=Nat.lt_of_mul_lt_mul_left h3;omega
theorem qaQ(w:World)(B1 n1 c1 B2 n2 c2:Nat)(A1 A2:Option Addr)(xs ys:List Nat)(hr1:Rd dN w B1 A1 xs)(hB1:B1≤w.heap.size)(hn1:n1=xs.length)(hr2:Rd dN w B2 A2 ys)(hB2:B2≤w.heap.size)(hn2:n2=ys.length)(hd1:zP xs)(hd2:zP ys)(hb1:n1≤1000)(hb2:n2≤1000):
 Calls prog 124 #[.slice A1 n1 c1,.slice A2 n2 c2] w fun e w'=>∃v zs,e= .returned v∧Own dN w' w.heap.size 3 v zs∧zP zs∧qC zs=qC xs*qC ys∧zs.length=n1+n2+1∧Below w.heap.size w w':=by
 obtain⟨i0,hi0,hz0,hz1,hz2⟩:=info_parts qbg;have R1:=qe (hr1.more hB1);have R2:=qe (hr2.more hB2);have N1:=qe hn1;have N2:=qe hn2;have D1:=qe hd1;have D2:=qe hd2;clear hr1 hr2 hn1 hn2 hB1 hB2 hd1 hd2;obtain⟨N,hN⟩:∃N,N=n1+n2+1:=⟨_,rfl⟩;have hNi:(n1:Int)+(n2:Int)+1=(N:Int):=by omega
 have hNb:N≤2001:=by omega
 have HNe:=qe hN;clear hN;go_enter func124,ntmps124
 go_wp2_with (refine wpList_make_full _ rfl (.tmp 15) (.tmp 15) 70 rfl w.heap.size 3 i0 _ 1 underlying70 hi0 hz0 hz1 .i64 .i64 _ _ N rfl rfl rfl rfl (by rw[hz2];omega) (by simp[maxLen];omega) (by simp) ?_;intro w3 hown3 hg3)
 have HO:=qe (qja hown3);have HB:=qe ((QK w.heap.size w).grown hg3 (QI _) (fun k e=>by cases e));have hz3:w.heap.size<w3.heap.size:=(HO.1.lt _ rfl).2;clear hown3 hg3;clear hNi;go_wp2_with fail
 go_loopw [6,7,8,9] (fun iv _ _ _ wr=>∃(i:Nat) (os:List Nat),i≤n1∧iv= .int .i64 (i:Int)∧os.length=N∧zP os∧qC os=qC (xs.take i)*qC ys∧Own dN wr w.heap.size 3 (.slice (some ⟨w.heap.size,0,none⟩) N N) os∧Below w.heap.size w wr) (fun iv _ _ _ _=>n1-(intOf iv).toNat)
 case atStart=>exact⟨0,QL N 0,by omega,rfl,by simp,fun x hx=>by rw[List.eq_of_mem_replicate hx];omega,by rw[qec];simp[qC],HO.1,HB.1⟩
 case round=>
  obtain⟨i,os,hi,rfl,hl,hd,hv,ho,hb⟩:=hrel;have HL:=qe hl;have HD:=qe hd;have HV:=qe hv;have HO2:=qe ho;have HB2:=qe hb;clear hl hd hv ho hb HO HB;by_cases hlt:i<n1
  ·have hlt':(i:Int)<(n1:Int):=by omega
   obtain⟨a,ha⟩:∃a,a=dig xs i:=⟨_,rfl⟩;have ha256:a<256:=by rw[ha];exact ze D1.1 i
   have HA:=qe (show∀W:World,Below w.heap.size w W→∃b1 o1,A1=some ⟨b1,o1,none⟩∧W.cell? ⟨b1,o1+i,none⟩=some (.int .i64 (a:Int))from fun W hb=>by
    obtain⟨b1,o1,h1,-,hc1⟩:=(R1.1.below hb).at_ (k:=i) (by rw[←N1.1];omega);refine⟨b1,o1,h1,?_⟩;rw[hc1,ha];simp[dN,dig,QR,show i<xs.length by rw[←N1.1];omega])
   have HT:=qe (show qC (xs.take (i+1))=qC (xs.take i)+256^i*a by rw[ha];exact qae xs i);clear ha;go_wp2_with fail
   go_loopw [7,8,9] (fun cv jv _ wr=>∃(j cr:Nat) (zs:List Nat),j≤n2+1∧jv= .int .i64 (j:Int)∧cv= .int .i64 (cr:Int)∧cr≤255∧(n2<j→cr=0)∧zs.length=N∧zP zs∧qC zs+256^(i+j)*cr=qC os+256^i*(a*qC (ys.take j))∧Own dN wr w.heap.size 3 (.slice (some ⟨w.heap.size,0,none⟩) N N) zs∧Below w.heap.size w wr) (fun _ jv _ _=>n2+2-(intOf jv).toNat)
   case atStart=>exact⟨0,0,os,by omega,rfl,rfl,by omega,by simp,HL.1,HD.1,by simp[qC],HO2.1,HB2.1⟩
   case round=>
    obtain⟨j,cr,zs,hj,rfl,rfl,hcr,hcz,hl,hd,hv,ho,hb⟩:=hrel;have HL3:=qe hl;have HD3:=qe hd;have HV3:=qe hv;have HO3:=qe ho;have HB3:=qe hb;have HC3:=qe hcz;clear hl hd hv ho hb hcz;by_cases hjn:j<n2
    ·obtain⟨d,hd'⟩:∃d,d=dig zs (i+j):=⟨_,rfl⟩
     have hkl:i+j<zs.length:=by rw[HL3.1,HNe.1];omega
     obtain⟨b2,o2,rfl,hbb2,hc2⟩:=(R2.1.below HB3.1).at_ (k:=j) (by rw[←N2.1];omega);obtain⟨y,hy⟩:∃y,y=dig ys j:=⟨_,rfl⟩;have hc2':wr.cell? ⟨b2,o2+j,none⟩=some (.int .i64 (y:Int)):=by
      rw[hc2,hy];simp[dN,dig,QR,show j<ys.length by rw[←N2.1];omega]
     obtain⟨b1,o1,rfl,hc1⟩:=HA.1 wr HB3.1;have hcd:=(HO3.1.at_ (k:=i+j) hkl).1;have fd:=(HO3.1.at_ (k:=i+j) hkl).2;have hcd':wr.cell? ⟨w.heap.size,i+j,none⟩=some (.int .i64 (d:Int)):=by
      rw[hcd,hd'];simp[dN,dig,QR,hkl]
     have hd256:d<256:=by rw[hd'];exact ze HD3.1 _
     have hy256:y<256:=by rw[hy];exact ze D2.1 _
     obtain⟨q,hq⟩:∃q,q=a*y:=⟨_,rfl⟩;have hqb:q≤65025:=by rw[hq];exact Nat.mul_le_mul (show a≤255 by omega) (show y≤255 by omega)
     have hqi:(a:Int)*(y:Int)=(q:Int):=by rw[hq];exact(Int.natCast_mul a y).symm
     obtain⟨s,hs⟩:∃s,s=d+cr+q:=⟨_,rfl⟩;have hsb:s≤65535:=by omega
     have HSt:=qe (qet zs i j cr a y s (qC os) (qC (ys.take j)) hkl (by rw[hs,hd',hq]) HV3.1);have HVt:=qe (show qC (ys.take (j+1))=qC (ys.take j)+256^j*y by rw[hy];exact qae ys j);have hsi:(d:Int)+(cr:Int)+(q:Int)=(s:Int):=by omega
     have hset:=HO3.1.set_ (i+j) (s % 256);have HSet:=qe (show Own dN (wr.setCell ⟨w.heap.size,i+j,none⟩ (.int .i64 ((s:Int) % 256))) w.heap.size 3 (.slice (some ⟨w.heap.size,0,none⟩) N N) (zs.set (i+j) (s % 256)) by
      have e:dN (s % 256)= .int .i64 ((s:Int) % 256):=by unfold dN;rw[Int.natCast_emod];rfl
      rw[←e];exact hset.1)
     have hijN:(i:Int)+(j:Int)<(N:Int):=by have:=HNe.1;omega
     have hjn':(j:Int)<(n2:Int):=by omega
     have hii:((i:Int)+(j:Int)).toNat=i+j:=by omega
     clear hc2 hcd hd' hy hq hs hset hd256 hy256 hkl;go_wp2_with fail
     go_region
     go_wp2_with fail
     refine⟨⟨j+1,s/256,zs.set (i+j) (s % 256),by omega,by simp,by simp,by omega,fun h=>by omega,by rw[Jy];exact HL3.1,qbi HD3.1 _ (by omega),?_,HSet.1.drew,(HB3.1.setCell (p:=⟨w.heap.size,i+j,none⟩) (QI _) _).drew⟩,by simp[intOf];omega⟩;rw[HVt.1];exact HSt.1
    ·have hjn':¬((j:Int)<(n2:Int)):=by omega
     have HVa:=qe (show qC (ys.take j)=qC ys from j4 ys j (by rw[←N2.1];omega));have HTo:=qe (show qC os+256^i*(a*qC ys)=qC (xs.take (i+1))*qC ys by
      rw[HT.1,HV.1,Nat.add_mul,JY])
     by_cases h0:cr=0
     ·subst h0
      have HZ:=qe (show qC zs=qC (xs.take (i+1))*qC ys by
       have h:=HV3.1;rw[HVa.1,HTo.1]at h;omega)
      go_wp2_with fail
      exact⟨⟨i+1,zs,by omega,by simp,HL3.1,HD3.1,HZ.1,HO3.1,HB3.1⟩,by simp[intOf];omega⟩
     ·have hjj:j=n2:=by
       rcases Jo n2 j with h|h
       ·exact absurd (HC3.1 h) h0
       ·omega
      have hcr0:(cr:Int)>0:=by omega
      obtain⟨d,hd'⟩:∃d,d=dig zs (i+j):=⟨_,rfl⟩;have hkl:i+j<zs.length:=by rw[HL3.1,HNe.1];omega
      have hcd:=(HO3.1.at_ (k:=i+j) hkl).1;have fd:=(HO3.1.at_ (k:=i+j) hkl).2;have hcd':wr.cell? ⟨w.heap.size,i+j,none⟩=some (.int .i64 (d:Int)):=by
       rw[hcd,hd'];simp[dN,dig,QR,hkl]
      have hd256:d<256:=by rw[hd'];exact ze HD3.1 _
      obtain⟨s,hs⟩:∃s,s=d+cr:=⟨_,rfl⟩;have hsb:s≤65535:=by omega
      have HSt:=qe (qet zs i j cr a 0 s (qC os) (qC (ys.take j)) hkl (by rw[hs,hd'];omega) HV3.1);have HVt:=qe (show qC (ys.take (j+1))=qC ys from j4 ys (j+1) (by rw[←N2.1];omega));have HC0:=qe (show s/256=0 from qlr zs (i+j) cr s _ (by rw[hs,hd']) HV3.1 (by
       rw[HVa.1,HTo.1];have g1:=ui (xs.take (i+1)) (fun x hx=>D1.1 x (J5 hx));have g2:=ui ys D2.1;rw[QV,JJ (by rw[←N1.1];omega)]at g1;rw[←N2.1]at g2;rw[hjj,show i+n2+1=(i+1)+n2 by omega,Nat.pow_add];exact Nat.mul_lt_mul'' g1 g2))
      have hsi:(d:Int)+(cr:Int)=(s:Int):=by omega
      have hset:=HO3.1.set_ (i+j) (s % 256);have HSet:=qe (show Own dN (wr.setCell ⟨w.heap.size,i+j,none⟩ (.int .i64 ((s:Int) % 256))) w.heap.size 3 (.slice (some ⟨w.heap.size,0,none⟩) N N) (zs.set (i+j) (s % 256)) by
       have e:dN (s % 256)= .int .i64 ((s:Int) % 256):=by unfold dN;rw[Int.natCast_emod];rfl
       rw[←e];exact hset.1)
      have hijN:(i:Int)+(j:Int)<(N:Int):=by have:=HNe.1;omega
      have hii:((i:Int)+(j:Int)).toNat=i+j:=by omega
      have HJ:=qe hjj;clear hcd hd' hs hset hd256 hkl hjj;go_wp2_with fail
      refine⟨⟨j+1,s/256,zs.set (i+j) (s % 256),by have:=HJ.1;omega,by simp,by simp,by rw[HC0.1];omega,fun _=>HC0.1,by rw[Jy];exact HL3.1,qbi HD3.1 _ (by omega),?_,HSet.1,HB3.1.setCell (p:=⟨w.heap.size,i+j,none⟩) (QI _) _⟩,by simp[intOf];omega⟩;have h:=HSt.1;rw[Nat.mul_zero,Nat.add_zero]at h;rw[HVt.1,←HVa.1];exact h
  ·obtain rfl:i=n1:=by omega
   go_wp2_with fail
   go_ret;exact⟨_,os,rfl,HO2.1,HD.1,by rw[HV.1,j4 xs i (by rw[←N1.1];omega)],by rw[HL.1,HNe.1],HB2.1⟩
def qeu(w:World):Value→List Nat
 | .slice (some a) n _=>(Q6 n).map fun k=>match w.cell? ⟨a.block,a.off+k,none⟩with
   |some (.int _ z)=>z.toNat
   |_=>0
 |_=> []
theorem qcM{w:World}{B n c:Nat}{A:Option Addr}{xs:List Nat}(h:Rd dN w B A xs)(hn:n=xs.length):qeu w (.slice A n c)=xs:=by
 subst hn;cases A with
 |none=>
  cases xs with
  |nil=>rfl
  |cons x xs=>obtain⟨b,o,e,-⟩:=h.at_ (k:=0) (by simp);cases e
 |some a=>
  refine List.ext_getElem (by simp[qeu]) fun k h1 h2=>?_
  obtain⟨b,o,e,-,hc⟩:=h.at_ (k:=k) h2;cases e;simp[qeu,hc,dN]
theorem qfn(V T L d:Nat)(hV:V=L+340282366920938463463374607431768211456*T)(hL:L<340282366920938463463374607431768211456):
 L+340282366920938463463374607431768211456*(T % 4)+5*(T/4)=V % 1361129467683753853853498429727072845824+5*(V/1361129467683753853853498429727072845824):=by omega
theorem qev(V:Nat)(h:1361129467683753853853498429727072845824≤V):V % 1361129467683753853853498429727072845824+5*(V/1361129467683753853853498429727072845824)<V:=by omega
theorem qew{m n V W:Nat}(hm:m=0∨256^(m-1)≤W)(hW:W<V)(hV:V<256^n):m≤n:=by
 rcases hm with rfl|h
 ·omega
 ·have:256^(m-1)<256^n:=by omega
  have:=(Nat.pow_lt_pow_iff_right (by omega:1<256)).1 this;omega
theorem kT(zs:List Nat)(j k:Nat):dig (zs.drop j) k=dig zs (j+k):=by simp[dig,QR]
theorem qbr(hs T:List Nat)(k n e:Nat)(hk:hs.length=k)(hn:n=dig T k/4+dig T (k+1) % 4*64)(h:qC hs*4+e=qC (T.take k)+256^k*(dig T k % 4)):
 qC (hs++ [n])*4+e=qC (T.take (k+1))+256^(k+1)*(dig T (k+1) % 4):=by
 rw[up,hk,qae,Nat.add_mul,JB,JY,JY];have h1:256^k*(n*4)+256^k*(dig T k % 4)=256^k*dig T k+256^k*(256*(dig T (k+1) % 4)):=by
  rw[←JN,←JN];congr 1;omega
 omega
theorem qfo(w:World)(B n0 c0:Nat)(A0:Option Addr)(xs:List Nat)(hr:Rd dN w B A0 xs)(hB:B≤w.heap.size)(hn0:n0=xs.length)(hc0:n0≤c0)(hd:zP xs)(htr:n0=0∨256^(n0-1)≤qC xs)(hb:n0≤500):
 Calls prog 122 #[.slice A0 n0 c0] w fun e w'=>∃A m c zs,e= .returned (.slice A m c)∧Rd dN w' w'.heap.size A zs∧m=zs.length∧m≤c∧m≤17∧zP zs∧qC zs % prm=qC xs % prm∧qC zs<1361129467683753853853498429727072845824∧Below w.heap.size w w':=by
 obtain⟨i0,hi0,hz0,hz1,hz2⟩:=info_parts qbg;have R0:=qe (hr.more hB);have N0:=qe hn0;have D0:=qe hd;have T0:=qe htr;clear hr hn0 hB hd htr;go_enter func122,ntmps122
 go_wp2_with fail
 go_loopw [0,3,4,5,6,7] (fun va _ _ _ _ _ wr=>∃(A:Option Addr) (n c:Nat) (zs:List Nat),va= .slice A n c∧n≤c∧n≤500∧n=zs.length∧Rd dN wr wr.heap.size A zs∧zP zs∧(n=0∨256^(n-1)≤qC zs)∧qC zs % prm=qC xs % prm∧Below w.heap.size w wr) (fun va _ _ _ _ _ wr=>qC (qeu wr va))
 case atStart=>exact⟨A0,n0,c0,xs,rfl,hc0,hb,N0.1,R0.1,D0.1,T0.out,rfl,QK _ _⟩
 case round=>
  obtain⟨A,n,c,zs,rfl,hnc,hnb,hl,hr,hd,ht,hv,hbw⟩:=hrel;have HR:=qe hr;have HL:=qe hl;have HD:=qe hd;have HT:=qe ht;have HV:=qe hv;have HB:=qe hbw;have HM:=qe (qcM (c:=c) hr hl);have hws:=hbw.size;clear hl hr hd ht hv hbw;by_cases h17:n≤16
  ·have h1:¬((n:Int)>17):=by omega
   have h2:¬((n:Int)=17):=by omega
   go_wp2_with fail
   go_ret;exact⟨A,n,c,rfl,zs,HR.1,HL.1,by omega,by omega,HD.1,HV.1,by
    have h1:=ui zs HD.1;rw[←HL.1]at h1;have h2:256^n≤256^16:=J7 (by omega) h17;omega,HB.1⟩
  ·obtain⟨t,ht⟩:∃t,t=dig zs 16:=⟨_,rfl⟩
   obtain⟨b,off,rfl,hbb,hc16⟩:=HR.1.at_ (k:=16) (by rw[←HL.1];omega);have hc16':wr.cell? ⟨b,off+16,none⟩=some (.int .i64 (t:Int)):=by
    rw[hc16,ht];simp[dN,dig,QR,show 16<zs.length by rw[←HL.1];omega]
   have ht256:t<256:=by rw[ht];exact ze HD.1 _
   have HVt:=qe (qeb zs 16 (by rw[←HL.1];omega));have HLt:=qe (ui (zs.take 16) (fun x hx=>HD.1 x (J5 hx)));have HTd:=qe ht;by_cases hexit:n=17∧t≤3
   ·obtain⟨hn17,ht3⟩:=hexit
    have ht3':¬((t:Int)>3):=by omega
    have hE:=qe (show qC zs<1361129467683753853853498429727072845824 by
     have h1:=HVt.1;have h2:=HLt.1;have h3:zs.drop 16=[t]:=by
      rw[ht];have:zs.length=17:=by rw[←HL.1];exact hn17
      rw[List.drop_eq_getElem_cons (by omega),List.drop_eq_nil_of_le (by omega)];simp[dig,QR,this]
     rw[h3]at h1;rw[QV,JJ (by rw[←HL.1];omega)]at h2;simp only[qC]at h1;omega)
    subst hn17;clear hc16 ht;go_wp2_with fail
    go_ret;exact⟨some ⟨b,off,none⟩,17,c,rfl,zs,HR.1,HL.1,by omega,by omega,HD.1,HV.1,hE.out,HB.1⟩
   ·have hbig:=qe (show 1361129467683753853853498429727072845824≤qC zs by
     by_cases h18:17<n
     ·rcases HT.1 with h|h
      ·omega
      ·have:256^17≤256^(n-1):=J7 (by omega) (by omega)
       omega
     ·have h1:=qaP zs 16
      rw[←ht]at h1;have h2:4≤t:=by omega
      have h3:256^16*4≤256^16*t:=Nat.mul_le_mul_left _ h2;omega)
    clear hc16 ht;obtain⟨wo,hwo⟩:∃wo,wo=wr:=⟨_,rfl⟩;have HRo:=qe (show Rd dN wo wo.heap.size (some ⟨b,off,none⟩) zs by rw[hwo];exact HR.1);have HBo:=qe (show Below w.heap.size w wo by rw[hwo];exact HB.1);have hwso:w.heap.size≤wo.heap.size:=HBo.1.size;have HMo:=qe (show qeu wo (.slice (some ⟨b,off,none⟩) n c)=zs by rw[hwo];exact HM.1);have Hstart:=qe (show Below wo.heap.size wo wr by rw[hwo];exact QK _ _)
    clear hwo HR HB;have hn17:17≤n:=by omega
    by_cases h18:17<n
    ·have h18':(n:Int)>17:=by omega
     go_wp2_with fail
     go_loopw [3,5] (fun lv iv wr=>∃i:Nat,i≤n∧iv= .int .i64 (i:Int)∧Own dN wr wo.heap.size 3 lv (zs.take (min i 16))∧Below wo.heap.size wo wr) (fun _ iv _=>n-(intOf iv).toNat)
     case atStart=>exact⟨0,by omega,rfl,Own.nil_ _ _ _ _,Hstart.1⟩
     case round=>
      obtain⟨i,hi,rfl,ho,hb⟩:=hrel;have HO:=qe ho;have HB:=qe hb;have hz:=hb.size;obtain⟨Al,cl,rfl,-,-,-,-⟩:=ho.shape' (n:=min i 16) (by rw[QV,←HL.1];omega);clear ho hb;by_cases hlt:i<n
      ·have hlt':(i:Int)<(n:Int):=by omega
       by_cases hlt16:i<16
       ·have hlt16':(i:Int)<16:=by omega
        obtain⟨x,hx⟩:∃x,x=dig zs i:=⟨_,rfl⟩;obtain⟨b',off',e',-,hci⟩:=(HRo.1.below HB.1).at_ (k:=i) (by rw[←HL.1];omega);cases e';have hci':wr.cell? ⟨b,off+i,none⟩=some (.int .i64 (x:Int)):=by
         rw[hci,hx];simp[dN,dig,QR,show i<zs.length by rw[←HL.1];omega]
        have HXe:=qe (show zs.take (min i 16)++ [x]=zs.take (min (i+1) 16) by
         rw[JJ (by omega),JJ (by omega),List.take_add_one,hx];simp[dig,QR,show i<zs.length by rw[←HL.1];omega])
        clear hci hx;go_wp2_with (at_builtin;refine qh rfl (.tmp 30) (.tmp 35) 70 rfl vU wo.heap.size 3 i0 _ 8 underlying70 hi0 hz0 hz1 hz2 rfl _ _ rfl (HO.1.alloc _) (wr.heap.size+1) _ 1 1 [x] rfl rfl (Rd.new dN wr 3 [x]) (by simp[maxLen];omega) (by simp;omega) (by(first|omega|(simp;done)|(simp;omega)|(simp at*;omega))) ?_;intro v7 w7 hown7 hg7 hbb7)
        exact⟨⟨i+1,by omega,by simp,hown7.cast HXe.1,hbb7 _ _ (QI _) (HB.1.alloc (by omega) _)⟩,by simp[intOf];omega⟩
       ·have hlt16':¬((i:Int)<16):=by omega
        go_wp2_with fail
        exact⟨⟨i+1,by omega,by simp,HO.1.cast (by rw[Nat.min_eq_right (by omega),Nat.min_eq_right (by omega)]),HB.1⟩,by simp[intOf];omega⟩
      ·have hlt':¬((i:Int)<(n:Int)):=by omega
       have HLo:=qe (HO.1.cast (show zs.take (min i 16)=zs.take 16 by rw[Nat.min_eq_right (by omega)]));obtain⟨b',off',e',-,hc16⟩:=(HRo.1.below HB.1).at_ (k:=16) (by rw[←HL.1];omega);cases e';have hc16':wr.cell? ⟨b,off+16,none⟩=some (.int .i64 (t:Int)):=by
        rw[hc16,HTd.1];simp[dN,dig,QR,show 16<zs.length by rw[←HL.1];omega]
       have hz16:(zs.take 16).length=16:=by rw[QV,←HL.1];omega
       have HZ16:=qe hz16;have HRx:=qe (show∀W:World,Rd dN (W.alloc (.cells #[.int .i64 ((t:Int) % 4)] 3)) (W.heap.size+1) (some ⟨W.heap.size,0,none⟩) [t % 4]from fun W=>by
        have h:=Rd.new dN W 3 [t % 4];rw[Jd,Jt,show dN (t % 4)= .int .i64 ((t:Int) % 4)from by unfold dN;rw[Int.natCast_emod];rfl]at h;exact h)
       clear hc16 hz16 HO;go_wp2_with (at_builtin;refine qh rfl (.tmp 37) (.tmp 42) 70 rfl vU wo.heap.size 3 i0 _ 8 underlying70 hi0 hz0 hz1 hz2 rfl _ _ rfl (HLo.1.alloc _) (wr.heap.size+1) _ 1 1 [t % 4] rfl rfl (HRx.1 wr) (by have:=HZ16.1;simp[maxLen];omega) (by have:=HZ16.1;simp;omega) (by(first|omega|(simp;done)|(simp;omega)|(simp at*;omega))) ?_;intro v7 w7 hown7 hg7 hbb7)
       obtain⟨A7,c7,rfl,-,-,-,-⟩:=hown7.shape' (n:=17) (by rw[QO,HZ16.1];rfl);have HB7:=qe (hbb7 _ _ (QI _) (HB.1.alloc (by omega) _):Below wo.heap.size wo w7);have HLow:=qe hown7;have hz7:wo.heap.size≤w7.heap.size:=HB7.1.size;clear hown7 hg7 hbb7 HLo hz HRx hc16' hlt' hlt;go_loopw [4,6,7] (fun hv iv _ wr=>∃(k I:Nat) (hs:List Nat),I=16+k∧I≤n∧iv= .int .i64 (I:Int)∧Own dN wr w7.heap.size 3 hv hs∧hs.length=k∧zP hs∧qC hs*4+t % 4=qC ((zs.drop 16).take k)+256^k*(dig (zs.drop 16) k % 4)∧Below w7.heap.size w7 wr) (fun _ iv _ _=>n-(intOf iv).toNat)
       case atStart=>exact⟨0,16,[],by omega,by omega,rfl,Own.nil_ _ _ _ _,rfl,fun x hx=>by simp at hx,by rw[kT,HTd.1];simp[qC],QK _ _⟩
       case round=>
        obtain⟨k,I,hs,hI,hIn,rfl,ho,hl,hd,hv,hb⟩:=hrel;have HO:=qe ho;have HB2:=qe hb;have HLh:=qe hl;have HDh:=qe hd;have HVh:=qe hv;have HI:=qe hI;have hzr:=hb.size;have hkb:k≤500:=by omega
        obtain⟨Ah,ch,rfl,-,-,-,-⟩:=ho.shape' (n:=k) hl;clear ho hb hl hd hv hI;by_cases hlt:I<n
        ·have hlt':(I:Int)<(n:Int):=by omega
         obtain⟨x,hx⟩:∃x,x=dig zs I:=⟨_,rfl⟩;obtain⟨b',off',e',-,hci⟩:=((HRo.1.below HB7.1).below (HB2.1.mono hz7)).at_ (k:=I) (by rw[←HL.1];omega);cases e';have hci':wr.cell? ⟨b,off+I,none⟩=some (.int .i64 (x:Int)):=by
          rw[hci,hx];simp[dN,dig,QR,show I<zs.length by rw[←HL.1];omega]
         have hx256:x<256:=by rw[hx];exact ze HD.1 _
         have HXd:=qe (show dig (zs.drop 16) k=x by rw[kT,←HI.1,hx]);clear hci hx;by_cases hlt2:I+1<n
         ·have hlt2':(I:Int)+1<(n:Int):=by omega
          obtain⟨y,hy⟩:∃y,y=dig zs (I+1):=⟨_,rfl⟩;obtain⟨b',off',e',-,hcj⟩:=((HRo.1.below HB7.1).below (HB2.1.mono hz7)).at_ (k:=I+1) (by rw[←HL.1];omega);cases e';have hcj':wr.cell? ⟨b,off+(I+1),none⟩=some (.int .i64 (y:Int)):=by
           rw[hcj,hy];simp[dN,dig,QR,show I+1<zs.length by rw[←HL.1];omega]
          have hy256:y<256:=by rw[hy];exact ze HD.1 _
          have HYd:=qe (show dig (zs.drop 16) (k+1)=y by rw[kT,←Nat.add_assoc,←HI.1,hy]);obtain⟨s,hs'⟩:∃s,s=x/4+y % 4*64:=⟨_,rfl⟩;have hs256:s<256:=by omega
          have hsi:(x:Int)/4+(y:Int) % 4*64=(s:Int):=by omega
          have HSt:=qe (qbr hs (zs.drop 16) k s (t % 4) HLh.1 (by rw[HXd.1,HYd.1];exact hs') HVh.1);clear hcj hy hs';go_wp2_with (at_builtin;refine qh rfl (.tmp 69) (.tmp 71) 70 rfl vU w7.heap.size 3 i0 _ 8 underlying70 hi0 hz0 hz1 hz2 rfl _ _ rfl (HO.1.alloc _) (wr.heap.size+1) _ 1 1 [s] rfl rfl (Rd.new dN wr 3 [s]) (by have:=HLh.1;simp[maxLen];omega) (by have:=HLh.1;simp;omega) (by(first|omega|(simp;done)|(simp;omega)|(simp at*;omega))) ?_;intro v8 w8 hown8 hg8 hbb8)
          refine⟨⟨k+1,I+1,hs++ [s],by have:=HI.1;omega,by omega,by simp,hown8,by rw[QO,HLh.1];rfl,fun z hz=>?_,HSt.1,hbb8 _ _ (QI _) (HB2.1.alloc (by omega) _)⟩,by simp[intOf];omega⟩;rcases QS.1 hz with h|h
          ·exact HDh.1 z h
          ·rw[Je.1 h];exact hs256
         ·have hlt2':¬((I:Int)+1<(n:Int)):=by omega
          have HYd:=qe (show dig (zs.drop 16) (k+1)=0 by rw[kT,←Nat.add_assoc,←HI.1];unfold dig;rw[QR,JH (by rw[←HL.1];omega)];rfl);obtain⟨s,hs'⟩:∃s,s=x/4:=⟨_,rfl⟩;have hs256:s<256:=by omega
          have hsi:(x:Int)/4=(s:Int):=by omega
          have HSt:=qe (qbr hs (zs.drop 16) k s (t % 4) HLh.1 (by rw[HXd.1,HYd.1,hs'];simp) HVh.1);clear hs';go_wp2_with (at_builtin;refine qh rfl (.tmp 69) (.tmp 71) 70 rfl vU w7.heap.size 3 i0 _ 8 underlying70 hi0 hz0 hz1 hz2 rfl _ _ rfl (HO.1.alloc _) (wr.heap.size+1) _ 1 1 [s] rfl rfl (Rd.new dN wr 3 [s]) (by have:=HLh.1;simp[maxLen];omega) (by have:=HLh.1;simp;omega) (by(first|omega|(simp;done)|(simp;omega)|(simp at*;omega))) ?_;intro v8 w8 hown8 hg8 hbb8)
          refine⟨⟨k+1,I+1,hs++ [s],by have:=HI.1;omega,by omega,by simp,hown8,by rw[QO,HLh.1];rfl,fun z hz=>?_,HSt.1,hbb8 _ _ (QI _) (HB2.1.alloc (by omega) _)⟩,by simp[intOf];omega⟩;rcases QS.1 hz with h|h
          ·exact HDh.1 z h
          ·rw[Je.1 h];exact hs256
        ·obtain rfl:I=n:=by omega
         have HVT:=qe (show qC hs*4+t % 4=qC (zs.drop 16) by
          have h:=HVh.1;have hk:(zs.drop 16).length=k:=by rw[Jf,←HL.1,HI.1];omega
          have hz:dig (zs.drop 16) k=0:=by unfold dig;rw[QR,JH (by rw[hk];omega)];rfl
          rw[j4 _ k (by rw[hk];omega),hz]at h;omega)
         go_wp2_with fail
         have hsz1:(wr.alloc (.cells #[.int .i64 5] 3)).heap.size=wr.heap.size+1:=QQ ..;refine(qaQ (wr.alloc (.cells #[.int .i64 5] 3)) wr.heap.size k ch (wr.heap.size+1) 1 1 Ah (some ⟨wr.heap.size,0,none⟩) hs [5] (HO.1.rd.alloc (QI _) _) (by rw[hsz1];omega) HLh.1.symm (Rd.new dN wr 3 [5]) (by rw[hsz1];omega) rfl HDh.1 (by intro x hx;rw[Je.1 hx];omega) (by omega) (by omega)).mono ?_
         rintro e w8 ⟨v8,ps,rfl,hop,hdp,hvp,hlp,hbp⟩;obtain⟨A8,c8,rfl,-,-,-,-⟩:=hop.shape' (n:=k+2) hlp;have HB8:=qe (show Below w7.heap.size w7 w8 from(HB2.1.alloc (by omega) _).trans (hbp.mono (by rw[hsz1];omega)));have HP:=qe hop.rd;have HDp:=qe hdp;have HLp:=qe hlp;have HVp:=qe (show qC ps=5*qC hs by rw[hvp];simp[qC];omega);have hsz8:w7.heap.size≤w8.heap.size:=HB8.1.size;clear hop hdp hvp hlp hbp hsz1
         go_wp2_with fail
         refine(kS w8 w7.heap.size 17 c7 w8.heap.size (k+2) c8 A7 A8 (zs.take 16++ [t % 4]) ps (HLow.1.rd.below HB8.1) hsz8 (by rw[QO,HZ16.1];rfl) HP.1 (QI _) HLp.1.symm (fun z hz=>by
          rcases QS.1 hz with h|h
          ·exact HD.1 z (J5 h)
          ·rw[Je.1 h];omega) HDp.1 (by omega) (by omega)).mono ?_
         rintro e w9 ⟨v9,qs,rfl,hoq,hdq,hvq,hlq,hbq⟩;obtain⟨M,hM⟩:∃M,M=qs.length:=⟨_,rfl⟩;obtain⟨A9,c9,rfl,-,-,hc9,-⟩:=hoq.shape' (n:=M) hM.symm;have HQ:=qe hoq.rd;have HDq:=qe hdq;have hMb:M≤600:=by omega
         have HM9:=qe hM;have HB9:=qe (show Below w.heap.size w w9 from HBo.1.trans ((HB7.1.mono hwso).trans ((HB8.1.mono (by omega)).trans (hbq.mono (by omega)))));have HVq:=qe (show qC qs=qC zs % 1361129467683753853853498429727072845824+5*(qC zs/1361129467683753853853498429727072845824) by
          have h1:=qfn (qC zs) (qC (zs.drop 16)) (qC (zs.take 16)) 0 HVt.1 (by have h:=HLt.1;rw[HZ16.1]at h;exact h);have h2:=HVT.1;rw[hvq,up,HZ16.1,HVp.1,←h1,show t % 4=qC (zs.drop 16) % 4 by omega,show qC hs=qC (zs.drop 16)/4 by omega])
         clear hoq hdq hvq hlq hbq hM;go_wp2_with fail
         refine(uX w9 w9.heap.size M c9 A9 qs HQ.1 HM9.1 hc9 (by omega)).mono ?_;rintro e w10 ⟨m,rfl,hmM,hvm,htm,rfl⟩;go_wp2_with fail
         have hlm:m=(qs.take m).length:=by rw[QV,←HM9.1];omega
         have hsm:=qev (qC zs) hbig.out;rw[←HVq.1]at hsm;refine⟨⟨A9,m,c9,qs.take m,rfl,by omega,?_,hlm,HQ.1.take m,fun z hz=>HDq.1 z (J5 hz),by rw[hvm];exact htm,?_,HB9.1⟩,?_⟩
         ·have hz:=ui zs HD.1
          rw[←HL.1]at hz;have:=qew htm hsm hz;omega
         ·rw[hvm,HVq.1,qfZ];exact HV.1
         ·rw[qcM (HQ.1.take m) hlm,HM.1,hvm]
          exact hsm
    ·obtain rfl:n=17:=by omega
     have ht4:(t:Int)>3:=by omega
     clear h18;go_wp2_with fail
     go_loopw [3,5] (fun lv iv wr=>∃i:Nat,i≤17∧iv= .int .i64 (i:Int)∧Own dN wr wo.heap.size 3 lv (zs.take (min i 16))∧Below wo.heap.size wo wr) (fun _ iv _=>17-(intOf iv).toNat)
     case atStart=>exact⟨0,by omega,rfl,Own.nil_ _ _ _ _,Hstart.1⟩
     case round=>
      obtain⟨i,hi,rfl,ho,hb⟩:=hrel;have HO:=qe ho;have HB:=qe hb;have hz:=hb.size;obtain⟨Al,cl,rfl,-,-,-,-⟩:=ho.shape' (n:=min i 16) (by rw[QV,←HL.1];omega);clear ho hb;by_cases hlt:i<17
      ·have hlt':(i:Int)<(17:Int):=by omega
       by_cases hlt16:i<16
       ·have hlt16':(i:Int)<16:=by omega
        obtain⟨x,hx⟩:∃x,x=dig zs i:=⟨_,rfl⟩;obtain⟨b',off',e',-,hci⟩:=(HRo.1.below HB.1).at_ (k:=i) (by rw[←HL.1];omega);cases e';have hci':wr.cell? ⟨b,off+i,none⟩=some (.int .i64 (x:Int)):=by
         rw[hci,hx];simp[dN,dig,QR,show i<zs.length by rw[←HL.1];omega]
        have HXe:=qe (show zs.take (min i 16)++ [x]=zs.take (min (i+1) 16) by
         rw[JJ (by omega),JJ (by omega),List.take_add_one,hx];simp[dig,QR,show i<zs.length by rw[←HL.1];omega])
        clear hci hx;go_wp2_with (at_builtin;refine qh rfl (.tmp 30) (.tmp 35) 70 rfl vU wo.heap.size 3 i0 _ 8 underlying70 hi0 hz0 hz1 hz2 rfl _ _ rfl (HO.1.alloc _) (wr.heap.size+1) _ 1 1 [x] rfl rfl (Rd.new dN wr 3 [x]) (by simp[maxLen];omega) (by simp;omega) (by(first|omega|(simp;done)|(simp;omega)|(simp at*;omega))) ?_;intro v7 w7 hown7 hg7 hbb7)
        exact⟨⟨i+1,by omega,by simp,hown7.cast HXe.1,hbb7 _ _ (QI _) (HB.1.alloc (by omega) _)⟩,by simp[intOf];omega⟩
       ·have hlt16':¬((i:Int)<16):=by omega
        go_wp2_with fail
        exact⟨⟨i+1,by omega,by simp,HO.1.cast (by rw[Nat.min_eq_right (by omega),Nat.min_eq_right (by omega)]),HB.1⟩,by simp[intOf];omega⟩
      ·have hlt':¬((i:Int)<(17:Int)):=by omega
       have HLo:=qe (HO.1.cast (show zs.take (min i 16)=zs.take 16 by rw[Nat.min_eq_right (by omega)]));obtain⟨b',off',e',-,hc16⟩:=(HRo.1.below HB.1).at_ (k:=16) (by rw[←HL.1];omega);cases e';have hc16':wr.cell? ⟨b,off+16,none⟩=some (.int .i64 (t:Int)):=by
        rw[hc16,HTd.1];simp[dN,dig,QR,show 16<zs.length by rw[←HL.1];omega]
       have hz16:(zs.take 16).length=16:=by rw[QV,←HL.1];omega
       have HZ16:=qe hz16;have HRx:=qe (show∀W:World,Rd dN (W.alloc (.cells #[.int .i64 ((t:Int) % 4)] 3)) (W.heap.size+1) (some ⟨W.heap.size,0,none⟩) [t % 4]from fun W=>by
        have h:=Rd.new dN W 3 [t % 4];rw[Jd,Jt,show dN (t % 4)= .int .i64 ((t:Int) % 4)from by unfold dN;rw[Int.natCast_emod];rfl]at h;exact h)
       clear hc16 hz16 HO;go_wp2_with (at_builtin;refine qh rfl (.tmp 37) (.tmp 42) 70 rfl vU wo.heap.size 3 i0 _ 8 underlying70 hi0 hz0 hz1 hz2 rfl _ _ rfl (HLo.1.alloc _) (wr.heap.size+1) _ 1 1 [t % 4] rfl rfl (HRx.1 wr) (by have:=HZ16.1;simp[maxLen];omega) (by have:=HZ16.1;simp;omega) (by(first|omega|(simp;done)|(simp;omega)|(simp at*;omega))) ?_;intro v7 w7 hown7 hg7 hbb7)
       obtain⟨A7,c7,rfl,-,-,-,-⟩:=hown7.shape' (n:=17) (by rw[QO,HZ16.1];rfl);have HB7:=qe (hbb7 _ _ (QI _) (HB.1.alloc (by omega) _):Below wo.heap.size wo w7);have HLow:=qe hown7;have hz7:wo.heap.size≤w7.heap.size:=HB7.1.size;clear hown7 hg7 hbb7 HLo hz HRx hc16' hlt' hlt;go_loopw [4,6,7] (fun hv iv _ wr=>∃(k I:Nat) (hs:List Nat),I=16+k∧I≤17∧iv= .int .i64 (I:Int)∧Own dN wr w7.heap.size 3 hv hs∧hs.length=k∧zP hs∧qC hs*4+t % 4=qC ((zs.drop 16).take k)+256^k*(dig (zs.drop 16) k % 4)∧Below w7.heap.size w7 wr) (fun _ iv _ _=>17-(intOf iv).toNat)
       case atStart=>exact⟨0,16,[],by omega,by omega,rfl,Own.nil_ _ _ _ _,rfl,fun x hx=>by simp at hx,by rw[kT,HTd.1];simp[qC],QK _ _⟩
       case round=>
        obtain⟨k,I,hs,hI,hIn,rfl,ho,hl,hd,hv,hb⟩:=hrel;have HO:=qe ho;have HB2:=qe hb;have HLh:=qe hl;have HDh:=qe hd;have HVh:=qe hv;have HI:=qe hI;have hzr:=hb.size;have hkb:k≤500:=by omega
        obtain⟨Ah,ch,rfl,-,-,-,-⟩:=ho.shape' (n:=k) hl;clear ho hb hl hd hv hI;by_cases hlt:I<17
        ·have hlt':(I:Int)<(17:Int):=by omega
         obtain⟨x,hx⟩:∃x,x=dig zs I:=⟨_,rfl⟩;obtain⟨b',off',e',-,hci⟩:=((HRo.1.below HB7.1).below (HB2.1.mono hz7)).at_ (k:=I) (by rw[←HL.1];omega);cases e';have hci':wr.cell? ⟨b,off+I,none⟩=some (.int .i64 (x:Int)):=by
          rw[hci,hx];simp[dN,dig,QR,show I<zs.length by rw[←HL.1];omega]
         have hx256:x<256:=by rw[hx];exact ze HD.1 _
         have HXd:=qe (show dig (zs.drop 16) k=x by rw[kT,←HI.1,hx]);clear hci hx;by_cases hlt2:I+1<17
         ·have hlt2':(I:Int)+1<(17:Int):=by omega
          obtain⟨y,hy⟩:∃y,y=dig zs (I+1):=⟨_,rfl⟩;obtain⟨b',off',e',-,hcj⟩:=((HRo.1.below HB7.1).below (HB2.1.mono hz7)).at_ (k:=I+1) (by rw[←HL.1];omega);cases e';have hcj':wr.cell? ⟨b,off+(I+1),none⟩=some (.int .i64 (y:Int)):=by
           rw[hcj,hy];simp[dN,dig,QR,show I+1<zs.length by rw[←HL.1];omega]
          have hy256:y<256:=by rw[hy];exact ze HD.1 _
          have HYd:=qe (show dig (zs.drop 16) (k+1)=y by rw[kT,←Nat.add_assoc,←HI.1,hy]);obtain⟨s,hs'⟩:∃s,s=x/4+y % 4*64:=⟨_,rfl⟩;have hs256:s<256:=by omega
          have hsi:(x:Int)/4+(y:Int) % 4*64=(s:Int):=by omega
          have HSt:=qe (qbr hs (zs.drop 16) k s (t % 4) HLh.1 (by rw[HXd.1,HYd.1];exact hs') HVh.1);clear hcj hy hs';go_wp2_with (at_builtin;refine qh rfl (.tmp 69) (.tmp 71) 70 rfl vU w7.heap.size 3 i0 _ 8 underlying70 hi0 hz0 hz1 hz2 rfl _ _ rfl (HO.1.alloc _) (wr.heap.size+1) _ 1 1 [s] rfl rfl (Rd.new dN wr 3 [s]) (by have:=HLh.1;simp[maxLen];omega) (by have:=HLh.1;simp;omega) (by(first|omega|(simp;done)|(simp;omega)|(simp at*;omega))) ?_;intro v8 w8 hown8 hg8 hbb8)
          refine⟨⟨k+1,I+1,hs++ [s],by have:=HI.1;omega,by omega,by simp,hown8,by rw[QO,HLh.1];rfl,fun z hz=>?_,HSt.1,hbb8 _ _ (QI _) (HB2.1.alloc (by omega) _)⟩,by simp[intOf];omega⟩;rcases QS.1 hz with h|h
          ·exact HDh.1 z h
          ·rw[Je.1 h];exact hs256
         ·have hlt2':¬((I:Int)+1<(17:Int)):=by omega
          have HYd:=qe (show dig (zs.drop 16) (k+1)=0 by rw[kT,←Nat.add_assoc,←HI.1];unfold dig;rw[QR,JH (by rw[←HL.1];omega)];rfl);obtain⟨s,hs'⟩:∃s,s=x/4:=⟨_,rfl⟩;have hs256:s<256:=by omega
          have hsi:(x:Int)/4=(s:Int):=by omega
          have HSt:=qe (qbr hs (zs.drop 16) k s (t % 4) HLh.1 (by rw[HXd.1,HYd.1,hs'];simp) HVh.1);clear hs';go_wp2_with (at_builtin;refine qh rfl (.tmp 69) (.tmp 71) 70 rfl vU w7.heap.size 3 i0 _ 8 underlying70 hi0 hz0 hz1 hz2 rfl _ _ rfl (HO.1.alloc _) (wr.heap.size+1) _ 1 1 [s] rfl rfl (Rd.new dN wr 3 [s]) (by have:=HLh.1;simp[maxLen];omega) (by have:=HLh.1;simp;omega) (by(first|omega|(simp;done)|(simp;omega)|(simp at*;omega))) ?_;intro v8 w8 hown8 hg8 hbb8)
          refine⟨⟨k+1,I+1,hs++ [s],by have:=HI.1;omega,by omega,by simp,hown8,by rw[QO,HLh.1];rfl,fun z hz=>?_,HSt.1,hbb8 _ _ (QI _) (HB2.1.alloc (by omega) _)⟩,by simp[intOf];omega⟩;rcases QS.1 hz with h|h
          ·exact HDh.1 z h
          ·rw[Je.1 h];exact hs256
        ·obtain rfl:I=17:=by omega
         have HVT:=qe (show qC hs*4+t % 4=qC (zs.drop 16) by
          have h:=HVh.1;have hk:(zs.drop 16).length=k:=by rw[Jf,←HL.1,HI.1];omega
          have hz:dig (zs.drop 16) k=0:=by unfold dig;rw[QR,JH (by rw[hk];omega)];rfl
          rw[j4 _ k (by rw[hk];omega),hz]at h;omega)
         go_wp2_with fail
         have hsz1:(wr.alloc (.cells #[.int .i64 5] 3)).heap.size=wr.heap.size+1:=QQ ..;refine(qaQ (wr.alloc (.cells #[.int .i64 5] 3)) wr.heap.size k ch (wr.heap.size+1) 1 1 Ah (some ⟨wr.heap.size,0,none⟩) hs [5] (HO.1.rd.alloc (QI _) _) (by rw[hsz1];omega) HLh.1.symm (Rd.new dN wr 3 [5]) (by rw[hsz1];omega) rfl HDh.1 (by intro x hx;rw[Je.1 hx];omega) (by omega) (by omega)).mono ?_
         rintro e w8 ⟨v8,ps,rfl,hop,hdp,hvp,hlp,hbp⟩;obtain⟨A8,c8,rfl,-,-,-,-⟩:=hop.shape' (n:=k+2) hlp;have HB8:=qe (show Below w7.heap.size w7 w8 from(HB2.1.alloc (by omega) _).trans (hbp.mono (by rw[hsz1];omega)));have HP:=qe hop.rd;have HDp:=qe hdp;have HLp:=qe hlp;have HVp:=qe (show qC ps=5*qC hs by rw[hvp];simp[qC];omega);have hsz8:w7.heap.size≤w8.heap.size:=HB8.1.size;clear hop hdp hvp hlp hbp hsz1
         go_wp2_with fail
         refine(kS w8 w7.heap.size 17 c7 w8.heap.size (k+2) c8 A7 A8 (zs.take 16++ [t % 4]) ps (HLow.1.rd.below HB8.1) hsz8 (by rw[QO,HZ16.1];rfl) HP.1 (QI _) HLp.1.symm (fun z hz=>by
          rcases QS.1 hz with h|h
          ·exact HD.1 z (J5 h)
          ·rw[Je.1 h];omega) HDp.1 (by omega) (by omega)).mono ?_
         rintro e w9 ⟨v9,qs,rfl,hoq,hdq,hvq,hlq,hbq⟩;obtain⟨M,hM⟩:∃M,M=qs.length:=⟨_,rfl⟩;obtain⟨A9,c9,rfl,-,-,hc9,-⟩:=hoq.shape' (n:=M) hM.symm;have HQ:=qe hoq.rd;have HDq:=qe hdq;have hMb:M≤600:=by omega
         have HM9:=qe hM;have HB9:=qe (show Below w.heap.size w w9 from HBo.1.trans ((HB7.1.mono hwso).trans ((HB8.1.mono (by omega)).trans (hbq.mono (by omega)))));have HVq:=qe (show qC qs=qC zs % 1361129467683753853853498429727072845824+5*(qC zs/1361129467683753853853498429727072845824) by
          have h1:=qfn (qC zs) (qC (zs.drop 16)) (qC (zs.take 16)) 0 HVt.1 (by have h:=HLt.1;rw[HZ16.1]at h;exact h);have h2:=HVT.1;rw[hvq,up,HZ16.1,HVp.1,←h1,show t % 4=qC (zs.drop 16) % 4 by omega,show qC hs=qC (zs.drop 16)/4 by omega])
         clear hoq hdq hvq hlq hbq hM;go_wp2_with fail
         refine(uX w9 w9.heap.size M c9 A9 qs HQ.1 HM9.1 hc9 (by omega)).mono ?_;rintro e w10 ⟨m,rfl,hmM,hvm,htm,rfl⟩;go_wp2_with fail
         have hlm:m=(qs.take m).length:=by rw[QV,←HM9.1];omega
         have hsm:=qev (qC zs) hbig.out;rw[←HVq.1]at hsm;refine⟨⟨A9,m,c9,qs.take m,rfl,by omega,?_,hlm,HQ.1.take m,fun z hz=>HDq.1 z (J5 hz),by rw[hvm];exact htm,?_,HB9.1⟩,?_⟩
         ·have hz:=ui zs HD.1
          rw[←HL.1]at hz;have:=qew htm hsm hz;omega
         ·rw[hvm,HVq.1,qfZ];exact HV.1
         ·rw[qcM (HQ.1.take m) hlm,HM.1,hvm]
          exact hsm
attribute [local go_sem high] qhX
def rA(ks:List Nat):Nat→List Nat
 |0=>ks
 |j+1=>(rA ks j).set (3+4*j) (dig (rA ks j) (3+4*j) % 16)
def rB(ks:List Nat):Nat→List Nat
 |0=>ks
 |j+1=>(rB ks j).set (4+4*j) (dig (rB ks j) (4+4*j)/4*4)
theorem qjb(ks:List Nat):∀j,(rA ks j).length=ks.length
 |0=>rfl
 |j+1=>by simp only[rA,Jy];exact qjb ks j
theorem qm6(ks:List Nat):∀j,(rB ks j).length=ks.length
 |0=>rfl
 |j+1=>by simp only[rB,Jy];exact qm6 ks j
theorem qoy(ks:List Nat)(h:zP ks):∀j,zP (rA ks j)
 |0=>h
 |j+1=>by simp only[rA];exact qbi (qoy ks h j) _ (by omega)
theorem qn0(ks:List Nat)(h:zP ks):∀j,zP (rB ks j)
 |0=>h
 |j+1=>by simp only[rB];exact qbi (qn0 ks h j) _ (by have:=ze (qn0 ks h j) (4+4*j);omega)
theorem qoz(key:qf)(h:key.length=32):(key.take 16).map JO=[(key.getD 0 0#8).toNat,(key.getD 1 0#8).toNat,(key.getD 2 0#8).toNat,(key.getD 3 0#8).toNat,(key.getD 4 0#8).toNat,(key.getD 5 0#8).toNat,(key.getD 6 0#8).toNat,(key.getD 7 0#8).toNat,(key.getD 8 0#8).toNat,(key.getD 9 0#8).toNat,(key.getD 10 0#8).toNat,(key.getD 11 0#8).toNat,(key.getD 12 0#8).toNat,(key.getD 13 0#8).toNat,(key.getD 14 0#8).toNat,(key.getD 15 0#8).toNat]:=by
 have e:(key.take 16).map JO=(Q6 16).map fun i=>(key.getD i 0#8).toNat:=by
  refine List.ext_getElem (by simp[h]) fun i h1 h2=>?_
  simp at h2;simp[QR,show i<key.length by omega]
 rw[e];rfl
theorem qm7(key:qf)(h:key.length=32):rB (rA ((key.take 16).map JO) 4) 3=kI key:=by
 rw[qoz key h];rfl
theorem qfp(p:qf):qC (p.map JO++ [1])=zx p+256^p.length:=by
 rw[up,km,QN,Nat.mul_one]
theorem qj8(p:qf):zP (p.map JO++ [1]):=by
 intro x hx;rcases QS.1 hx with h|h
 ·exact vQ p x h
 ·rw[Je.1 h];omega
theorem qfq(S r k:Nat)(text:qf)(hS:S % prm=ub r text k):(S+(zx (qO text k)+256^(qO text k).length))*r % prm=ub r text (k+1):=by
 simp only[ub];rw[←hS,Nat.mul_mod,←Nat.mod_add_mod S prm,←Nat.mul_mod]
theorem qls(S:Nat)(more:List Nat)(hD:zP more)(hv:qC more=S+5)(hS:S<1361129467683753853853498429727072845824):
 (17≤more.length∧4≤dig more 16→qC (more.set 16 (dig more 16 % 4))=S % prm)∧(¬(17≤more.length∧4≤dig more 16)→S=S % prm):=by
 have hd:=qaK more 16 hD;change _=dig more 16 at hd;rw[hv]at hd;have e:(256:Nat)^16=340282366920938463463374607431768211456:=rfl;rw[e]at hd;have h16:=qaP more 16;rw[hv,e]at h16;refine⟨fun⟨h1,h2⟩=>?_,fun h=>?_⟩
 ·have hs:=qes more 16 (dig more 16 % 4) (by omega)
  rw[hv,e]at hs;have hd4:dig more 16=4:=by omega
  rw[hd4]at hs ⊢;have hp:prm=1361129467683753853853498429727072845819:=rfl;have e1:S % prm=S-prm:=by rw[Nat.mod_eq_sub_mod (by omega),JP (by omega)]
  rw[e1,hp];simp only[Nat.mod_self]at hs ⊢;omega
 ·rw[JP]
  unfold prm;rcases Jo more.length 17 with h1|h1
  ·have h2:=ui more hD
   have h3:256^more.length≤256^16:=J7 (by omega) (by omega);rw[e]at h3;omega
  ·have h2:¬4≤dig more 16:=fun h'=>h ⟨h1,h'⟩
   omega
def kf(all:List Nat)(k:Nat):qf:=(Q6 16).map fun i=>if i<k then QP 8 (dig all i)else 0#8
theorem qcN(all:List Nat)(k:Nat):(kf all k).length=16:=by simp[kf]
theorem qbM(all:List Nat):kf all 0=QL 16 0#8:=by simp[kf];rfl
theorem qcO(all:List Nat)(k:Nat):(kf all k).set k (QP 8 (dig all k))=kf all (k+1):=by
 apply List.ext_getElem
 ·simp[kf]
 ·intro i h1 h2
  simp only[kf,List.getElem_set,List.getElem_map,List.getElem_range];by_cases h:k=i
  ·subst h;simp
  ·rw[if_neg h]
   by_cases h':i<k
   ·rw[if_pos h',if_pos (by omega)]
   ·rw[if_neg h',if_neg (by omega)]
theorem qlt(all:List Nat)(hD:zP all)(k:Nat)(hk:16≤k∨all.length≤k):kf all k=yc (qC all % 340282366920938463463374607431768211456):=by
 unfold kf yc;refine List.map_congr_left fun i hi=>?_
 have hi':=List.mem_range.1 hi;have e1:QP 8 (qC all % 340282366920938463463374607431768211456/256^i)=QP 8 (dig all i):=by
  have hd:qC all/256^i % 256=dig all i:=qaK all i hD;apply BitVec.eq_of_toNat_eq;rw[Q8,Q8,←hd];have e2:340282366920938463463374607431768211456=256^i*(256*256^(15-i)):=by
   rw[←JY,←JB,←Nat.pow_add,show i+1+(15-i)=16 by omega]
  rw[e2,Nat.mod_mul_right_div_self,Nat.mod_mul_right_mod];exact(Nat.mod_mod _ _).symm
 rw[e1];split
 ·rfl
 ·rename_i h
  have:dig all i=0:=by
   unfold dig;rw[QR,JH (by omega)];rfl
  rw[this]
theorem jM:(prog.info? 147).map (·.size)=some 16:=by kernel_rfl
theorem qhY(w:World)(key:qf)(hk:key.length=32)(B n c:Nat)(A:Option Addr)(text:qf)(hr:Rd b8 w B A text)(hB:B≤w.heap.size)(hn:n=text.length)(hnc:n≤c)(hb:n≤4000000):
 Calls prog 104 #[.agg (key.map b8).toArray,.slice A n c] w fun e w'=>e= .returned (.agg ((yB key text).map b8).toArray)∧Below w.heap.size w w':=by
 obtain⟨i0,hi0,hz0,hz1,hz2⟩:=info_parts qbg;obtain⟨O,hO⟩:∃O,O=yB key text:=⟨_,rfl⟩;rw[←hO];have HML:=qe (show O.length=16 by rw[hO];exact qcH _ _);have HOe:=qe (show∀al i,zP al→(16≤i∨al.length≤i)→qC al % 340282366920938463463374607431768211456=qhr key text→kf al i=O by
  intro al i h1 h2 h3;rw[qlt al h1 i h2,h3,hO];exact(Eq.refl (yB key text)))
 clear hO;have HK:=qe hk;have HR:=qe (hr.more hB);have HN:=qe hn;clear hk hr hB hn;go_enter func104,ntmps104
 go_wp2_with fail
 have HK1:=qe (Arr.alloc (Arr.new b8 w 92 key) (.cells ((QL 16 0#8).map b8).toArray 147));have HO1:=qe (Arr.at_size b8 (w:=w.alloc (.cells (key.map b8).toArray 92)) (k:=w.heap.size+1) 147 (QL 16 0#8) (QQ ..));have HB1:=qe (show Below w.heap.size w ((w.alloc (.cells (key.map b8).toArray 92)).alloc (.cells ((QL 16 0#8).map b8).toArray 147))from((QK _ w).alloc (QI _) _).alloc (by simp) _)
 have hz1:((w.alloc (.cells (key.map b8).toArray 92)).alloc (.cells ((QL 16 0#8).map b8).toArray 147)).heap.size=w.heap.size+2:=by simp
 change Calls _ _ _ ((w.alloc (.cells (key.map b8).toArray 92)).alloc (.cells ((QL 16 0#8).map b8).toArray 147)) _;generalize(w.alloc (.cells (key.map b8).toArray 92)).alloc (.cells ((QL 16 0#8).map b8).toArray 147)=w1 at HK1 HO1 HB1 hz1 ⊢;have hws:w.heap.size+2≤w1.heap.size:=by omega
 clear hz1;have hk16:(key.take 16).length=16:=by rw[QV,HK.1];rfl
 have HKr:=qe (show Rd b8 w1 w1.heap.size (some ⟨w.heap.size,0,none⟩) key from(HK1.1.rd 0).more (by omega));refine(ke w1 w1.heap.size 16 32 (some ⟨w.heap.size,0,none⟩) (key.take 16) (HKr.1.take 16) (QI _) hk16.symm (by omega)).mono ?_;rintro e w2 ⟨v2,rfl,ho2,hb2⟩;obtain⟨ks,hks⟩:∃ks,ks=(key.take 16).map JO:=⟨_,rfl⟩;have hkl:ks.length=16:=by rw[hks,QN,hk16]
 have hkd:zP ks:=by rw[hks];exact vQ _
 rw[←hks]at ho2;have HKs:=qe (show rB (rA ks 4) 3=kI key by rw[hks];exact qm7 key HK.1);have HKl:=qe hkl;have HKd:=qe hkd;obtain⟨gr,cr,rfl,hgr1,hgr2,hcr⟩:=ho2.form' hkl (by omega);have HO2:=qe ho2;have HB2:=qe hb2;clear ho2 hb2 hkl hkd hks hk16;go_wp2_with fail
 go_loopw [6] (fun iv wr=>∃(j p:Nat),p=3+4*j∧j≤4∧iv= .int .i64 (p:Int)∧Own dN wr w1.heap.size 3 (.slice (some ⟨gr,0,none⟩) 16 cr) (rA ks j)∧Below w1.heap.size w1 wr) (fun iv _=>19-(intOf iv).toNat)
 case atStart=>exact⟨0,3,rfl,by omega,rfl,HO2.1,HB2.1⟩
 case round=>
  obtain⟨j,p,hp,hj,rfl,ho,hb⟩:=hrel;have HP:=qe hp;have HO:=qe ho;have HB:=qe hb;have hp19:p≤19:=by omega
  clear hp ho hb;by_cases hlt:p<16
  ·have hlt':(p:Int)<16:=by omega
   have hpl:p<(rA ks j).length:=by rw[qjb,HKl.1];exact hlt
   obtain⟨d,hd⟩:∃d,d=dig (rA ks j) p:=⟨_,rfl⟩;have hc:=(HO.1.at_ (k:=p) hpl).1;have hf:=(HO.1.at_ (k:=p) hpl).2;have hc':wr.cell? ⟨gr,p,none⟩=some (.int .i64 (d:Int)):=by rw[hc,hd];simp[dN,dig,QR,hpl]
   have HS:=qe (show Own dN (wr.setCell ⟨gr,p,none⟩ (.int .i64 ((d:Int) % 16))) w1.heap.size 3 (.slice (some ⟨gr,0,none⟩) 16 cr) (rA ks (j+1)) by
    have h:=(HO.1.set_ p (d % 16)).1;have e:dN (d % 16)= .int .i64 ((d:Int) % 16):=by unfold dN;rw[Int.natCast_emod];rfl
    rw[e]at h;simp only[rA];rw[←HP.1,←hd];exact h)
   clear hc hd hpl;go_wp2_with fail
   exact⟨⟨j+1,p+4,by rw[HP.1];omega,by have:=HP.1;omega,by simp,HS.1,HB.1.setCell (p:=⟨gr,p,none⟩) hgr1 _⟩,by simp[intOf];omega⟩
  ·have hlt':¬((p:Int)<16):=by omega
   obtain rfl:j=4:=by have:=HP.1;omega
   clear HP hp19 hlt;have HO3:=qe HO.1;have HB3:=qe HB.1;clear HO HB;go_wp2_with fail
   go_loopw [7] (fun iv wr=>∃(j p:Nat),p=4+4*j∧j≤3∧iv= .int .i64 (p:Int)∧Own dN wr w1.heap.size 3 (.slice (some ⟨gr,0,none⟩) 16 cr) (rB (rA ks 4) j)∧Below w1.heap.size w1 wr) (fun iv _=>19-(intOf iv).toNat)
   case atStart=>exact⟨0,4,rfl,by omega,rfl,HO3.1,HB3.1⟩
   case round=>
    obtain⟨j,p,hp,hj,rfl,ho,hb⟩:=hrel;have HP:=qe hp;have HO:=qe ho;have HB:=qe hb;have hp19:p≤16:=by omega
    clear hp ho hb;by_cases hlt:p<16
    ·have hlt':(p:Int)<16:=by omega
     have hpl:p<(rB (rA ks 4) j).length:=by rw[qm6,qjb,HKl.1];exact hlt
     obtain⟨d,hd⟩:∃d,d=dig (rB (rA ks 4) j) p:=⟨_,rfl⟩;have hc:=(HO.1.at_ (k:=p) hpl).1;have hf:=(HO.1.at_ (k:=p) hpl).2;have hd256:d<256:=by rw[hd];exact ze (qn0 _ (qoy _ HKd.1 _) _) _
     have hc':wr.cell? ⟨gr,p,none⟩=some (.int .i64 (d:Int)):=by rw[hc,hd];simp[dN,dig,QR,hpl]
     obtain⟨s,hs⟩:∃s,s=d/4*4:=⟨_,rfl⟩;have hsi:(d:Int)/4*4=(s:Int):=by omega
     have HS:=qe (show Own dN (wr.setCell ⟨gr,p,none⟩ (.int .i64 (s:Int))) w1.heap.size 3 (.slice (some ⟨gr,0,none⟩) 16 cr) (rB (rA ks 4) (j+1)) by
      have h:=(HO.1.set_ p s).1;simp only[rB];rw[←HP.1,←hd,←hs];exact h)
     clear hc hd hpl hs;go_wp2_with fail
     exact⟨⟨j+1,p+4,by rw[HP.1];omega,by have:=HP.1;omega,by simp,HS.1,HB.1.setCell (p:=⟨gr,p,none⟩) hgr1 _⟩,by simp[intOf];omega⟩
    ·have hlt':¬((p:Int)<16):=by omega
     obtain rfl:j=3:=by have:=HP.1;omega
     clear HP hp19 hlt;obtain⟨w3,hw3⟩:∃w3,w3=wr:=⟨_,rfl⟩;have HRr:=qe (show Rd dN w3 w3.heap.size (some ⟨gr,0,none⟩) (kI key) by rw[hw3,←HKs.1];exact HO.1.rd);have HRd:=qe (show zP (kI key) by rw[←HKs.1];exact qn0 _ (qoy _ HKd.1 _) _);have HRl:=qe (show 16=(kI key).length by simp[kI]);have HRv:=qe (qhp key HK.1);have HB4:=qe (show Below w1.heap.size w1 w3 by rw[hw3];exact HB.1)
     have hz3:w1.heap.size≤w3.heap.size:=HB4.1.size;have HT:=qe ((HR.1.below (HB1.1.trans (HB4.1.mono (by omega)))).more (show w.heap.size≤w3.heap.size by omega));have H0:=qe (show Below w3.heap.size w3 wr by rw[hw3];exact QK _ _);clear hw3 HO HB HO3 HB3 HO2 HB2 HKs HKl HKd;go_wp2_with fail
     go_loopw [8,9,10,11] (fun sv av _ _ wr=>∃(k at_:Nat) (As:Option Addr) (m cs:Nat) (zs:List Nat),at_=16*k∧av= .int .i64 (at_:Int)∧at_≤n+15∧sv= .slice As m cs∧Rd dN wr wr.heap.size As zs∧m=zs.length∧m≤17∧zP zs∧qC zs % prm=ub (rN key) text k∧qC zs<1361129467683753853853498429727072845824∧Below w3.heap.size w3 wr) (fun _ av _ _ _=>n+16-(intOf av).toNat)
     case atStart=>exact⟨0,0,none,0,0,[],rfl,rfl,by omega,rfl,Rd.nil_ _ _ _ _,rfl,by omega,fun x hx=>by simp at hx,by simp[qC,ub],by simp[qC],H0.1⟩
     case round=>
      obtain⟨k,at_,As,m,cs,zs,hat,rfl,hatn,rfl,hrs,hm,hm17,hds,hvs,hvl,hb⟩:=hrel;have HAt:=qe hat;have HS:=qe hrs;have HM:=qe hm;have HD:=qe hds;have HV:=qe hvs;have HVl:=qe hvl;have HB:=qe hb;clear hat hrs hm hds hvs hvl hb;by_cases hlt:at_<n
      ·have hlt':(at_:Int)<(n:Int):=by omega
       obtain⟨b,off,e1,-,-⟩:=HT.1.at_ (k:=at_) (by rw[←HN.1];exact hlt);subst e1;by_cases hend:at_+16≤n
       ·obtain⟨E,hE⟩:∃E,E=at_+16:=⟨_,rfl⟩
        have he:(at_:Int)+16=(E:Int):=by omega
        have hEn:¬((E:Int)>(n:Int)):=by omega
        have hEa:at_≤E:=by omega
        have hEn2:E≤n:=by omega
        have HE':=qe (show(qO text k).length=E-at_ by unfold qO;rw[QV,Jf,←HN.1,←HAt.1];omega);have hE16:E-at_≤16:=by omega
        clear hE;go_wp2_with fail
        generalize hPe:E-at_=P;generalize c-at_=C;have HE:=qe (show(qO text k).length=P by rw[←hPe];exact HE'.1);have hP16:P≤16:=by omega
        clear hPe hE16;refine(ke wr wr.heap.size P C (some ⟨b,off+at_,none⟩) (qO text k) (by
         have h:=((HT.1.below HB.1).drop at_).take 16;have h2:=h.more (show w3.heap.size≤wr.heap.size from HB.1.size);have e:qO text k=(text.drop at_).take 16:=by unfold qO;rw[←HAt.1]
         rw[e];have eA:(Addr.mk b off none).add at_=⟨b,off+at_,none⟩:=by by_cases h:at_=0<;>simp[Addr.add,h]
         rw[Option.map_some,eA]at h2;exact h2) (QI _) HE.1.symm (by omega)).mono ?_
        rintro e w4 ⟨v4,rfl,ho4,hb4⟩;obtain⟨A4,c4,rfl,-,-,-,-⟩:=ho4.shape' (n:=P) (by rw[QN,HE.1]);have HO4:=qe ho4;have HB4':=qe hb4;have hz4:=hb4.size;have HLq:=qe (show((qO text k).map JO).length=P by rw[QN,HE.1]);clear ho4 hb4;go_wp2_with (at_builtin;refine qh rfl (.tmp 61) (.tmp 62) 70 rfl vU wr.heap.size 3 i0 _ 8 underlying70 hi0 hz0 hz1 hz2 rfl _ _ rfl (HO4.1.alloc _) (w4.heap.size+1) _ 1 1 [1] rfl rfl (Rd.new dN w4 3 [1]) (by have:=HE.1;simp[maxLen];omega) (by have:=HE.1;simp;omega) (by(first|omega|(simp;done)|(simp;omega)|(simp at*;omega))) ?_;intro v5 w5 hown5 hg5 hbb5;obtain⟨A5,c5,rfl,-,-,-,-⟩:=hown5.shape' (n:=P+1) (by rw[QO,HLq.1];rfl))
        have HO5:=qe hown5;have HB5:=qe (show Below wr.heap.size wr w5 from hbb5 _ _ (QI _) (HB4'.1.alloc (by omega) _));have hz5:wr.heap.size≤w5.heap.size:=HB5.1.size;have HPv:=qe (qfp (qO text k));have HPl:=qe (show P+1=((qO text k).map JO++ [1]).length by rw[QO,HLq.1];rfl);clear hown5 hg5 hbb5 HO4 HB4' hz4;refine(kS w5 w5.heap.size m cs w5.heap.size (P+1) c5 As A5 zs _ ((HS.1.below HB5.1).more hz5) (QI _) HM.1 HO5.1.rd (QI _) HPl.1 HD.1 (qj8 _) (by omega) (by omega)).mono ?_
        rintro e w6 ⟨v6,qs,rfl,hoq,hdq,hvq,hlq,hbq⟩;obtain⟨M6,hM6⟩:∃M,M=qs.length:=⟨_,rfl⟩;obtain⟨A6,c6,rfl,-,-,hc6,-⟩:=hoq.shape' (n:=M6) hM6.symm;have hM6b:M6≤18:=by omega
        have HQ6:=qe hoq.rd;have HD6:=qe hdq;have HV6:=qe hvq;have HM6:=qe hM6;have HB6:=qe (show Below wr.heap.size wr w6 from HB5.1.trans (hbq.mono hz5));have hz6:wr.heap.size≤w6.heap.size:=HB6.1.size;clear hoq hdq hvq hlq hbq hM6 HO5 HB5 HPl;go_wp2_with fail
        refine(uX w6 w6.heap.size M6 c6 A6 qs HQ6.1 HM6.1 hc6 (by omega)).mono ?_;rintro e w7 ⟨m7,rfl,hm7,hv7,ht7,rfl⟩;have HL7:=qe (show m7=(qs.take m7).length by rw[QV,←HM6.1];omega);have HV7:=qe hv7;clear hv7 ht7;go_wp2_with fail
        refine(qaQ w6 w6.heap.size m7 c6 w6.heap.size 16 cr A6 (some ⟨gr,0,none⟩) (qs.take m7) (kI key) (HQ6.1.take m7) (QI _) HL7.1 (((HRr.1.below (HB.1.trans (HB6.1.mono HB.1.size))).more (by have:=HB.1.size;omega))) (QI _) HRl.1 (fun z hz=>HD6.1 z (J5 hz)) HRd.1 (by omega) (by omega)).mono ?_;rintro e w8 ⟨v8,ps,rfl,hop,hdp,hvp,hlp,hbp⟩;obtain⟨A8,c8,rfl,-,-,hc8,-⟩:=hop.shape' (n:=m7+16+1) hlp
        have HP8:=qe hop.rd;have HD8:=qe hdp;have HL8:=qe hlp;have HV8:=qe (show qC ps=(qC zs+(zx (qO text k)+256^(qO text k).length))*rN key by rw[hvp,HV7.1,HV6.1,HPv.1,HRv.1]);have HB8:=qe (show Below wr.heap.size wr w8 from HB6.1.trans (hbp.mono hz6));have hz8:wr.heap.size≤w8.heap.size:=HB8.1.size;clear hop hdp hvp hlp hbp HQ6 HD6 HV6 HB6 HV7 HL7;go_wp2_with fail
        refine(uX w8 w8.heap.size (m7+16+1) c8 A8 ps HP8.1 HL8.1.symm hc8 (by omega)).mono ?_;rintro e w9 ⟨m9,rfl,hm9,hv9,ht9,rfl⟩;go_wp2_with fail
        refine(qfo w8 w8.heap.size m9 c8 A8 (ps.take m9) (HP8.1.take m9) (QI _) (by rw[QV,HL8.1];omega) (by omega) (fun z hz=>HD8.1 z (J5 hz)) (by rw[hv9];exact ht9) (by omega)).mono ?_;rintro e w10 ⟨A10,m10,c10,rs,rfl,hr10,hm10,hmc10,hm17',hd10,hv10,hl10,hb10⟩;rw[hv9,HV8.1,qfq _ _ _ _ HV.1]at hv10;have HR10:=qe hr10;have HD10:=qe hd10;have HV10:=qe hv10
        have HM10:=qe hm10;have HL10:=qe hl10;have HB10:=qe (show Below w3.heap.size w3 w10 from HB.1.trans ((HB8.1.trans (hb10.mono hz8)).mono HB.1.size));clear hr10 hd10 hv10 hm10 hl10 hb10 hv9 ht9;go_wp2_with fail
        exact⟨⟨k+1,at_+16,A10,m10,c10,rs,by rw[HAt.1];omega,by(first|(simp;done)|(simp;omega)),by omega,rfl,HR10.1,HM10.1,hm17',HD10.1,HV10.1,HL10.1,HB10.1⟩,by simp[intOf];omega⟩
       ·have he:(at_:Int)+16>(n:Int):=by omega
        have HE':=qe (show(qO text k).length=n-at_ by unfold qO;rw[QV,Jf,←HN.1,←HAt.1];omega);have hE16:n-at_≤16:=by omega
        have hEa:at_≤n:=by omega
        go_wp2_with fail
        generalize hPe:n-at_=P;generalize c-at_=C;have HE:=qe (show(qO text k).length=P by rw[←hPe];exact HE'.1);have hP16:P≤16:=by omega
        clear hPe hE16;refine(ke wr wr.heap.size P C (some ⟨b,off+at_,none⟩) (qO text k) (by
         have h:=((HT.1.below HB.1).drop at_).take 16;have h2:=h.more (show w3.heap.size≤wr.heap.size from HB.1.size);have e:qO text k=(text.drop at_).take 16:=by unfold qO;rw[←HAt.1]
         rw[e];have eA:(Addr.mk b off none).add at_=⟨b,off+at_,none⟩:=by by_cases h:at_=0<;>simp[Addr.add,h]
         rw[Option.map_some,eA]at h2;exact h2) (QI _) HE.1.symm (by omega)).mono ?_
        rintro e w4 ⟨v4,rfl,ho4,hb4⟩;obtain⟨A4,c4,rfl,-,-,-,-⟩:=ho4.shape' (n:=P) (by rw[QN,HE.1]);have HO4:=qe ho4;have HB4':=qe hb4;have hz4:=hb4.size;have HLq:=qe (show((qO text k).map JO).length=P by rw[QN,HE.1]);clear ho4 hb4;go_wp2_with (at_builtin;refine qh rfl (.tmp 61) (.tmp 62) 70 rfl vU wr.heap.size 3 i0 _ 8 underlying70 hi0 hz0 hz1 hz2 rfl _ _ rfl (HO4.1.alloc _) (w4.heap.size+1) _ 1 1 [1] rfl rfl (Rd.new dN w4 3 [1]) (by have:=HE.1;simp[maxLen];omega) (by have:=HE.1;simp;omega) (by(first|omega|(simp;done)|(simp;omega)|(simp at*;omega))) ?_;intro v5 w5 hown5 hg5 hbb5;obtain⟨A5,c5,rfl,-,-,-,-⟩:=hown5.shape' (n:=P+1) (by rw[QO,HLq.1];rfl))
        have HO5:=qe hown5;have HB5:=qe (show Below wr.heap.size wr w5 from hbb5 _ _ (QI _) (HB4'.1.alloc (by omega) _));have hz5:wr.heap.size≤w5.heap.size:=HB5.1.size;have HPv:=qe (qfp (qO text k));have HPl:=qe (show P+1=((qO text k).map JO++ [1]).length by rw[QO,HLq.1];rfl);clear hown5 hg5 hbb5 HO4 HB4' hz4;refine(kS w5 w5.heap.size m cs w5.heap.size (P+1) c5 As A5 zs _ ((HS.1.below HB5.1).more hz5) (QI _) HM.1 HO5.1.rd (QI _) HPl.1 HD.1 (qj8 _) (by omega) (by omega)).mono ?_
        rintro e w6 ⟨v6,qs,rfl,hoq,hdq,hvq,hlq,hbq⟩;obtain⟨M6,hM6⟩:∃M,M=qs.length:=⟨_,rfl⟩;obtain⟨A6,c6,rfl,-,-,hc6,-⟩:=hoq.shape' (n:=M6) hM6.symm;have hM6b:M6≤18:=by omega
        have HQ6:=qe hoq.rd;have HD6:=qe hdq;have HV6:=qe hvq;have HM6:=qe hM6;have HB6:=qe (show Below wr.heap.size wr w6 from HB5.1.trans (hbq.mono hz5));have hz6:wr.heap.size≤w6.heap.size:=HB6.1.size;clear hoq hdq hvq hlq hbq hM6 HO5 HB5 HPl;go_wp2_with fail
        refine(uX w6 w6.heap.size M6 c6 A6 qs HQ6.1 HM6.1 hc6 (by omega)).mono ?_;rintro e w7 ⟨m7,rfl,hm7,hv7,ht7,rfl⟩;have HL7:=qe (show m7=(qs.take m7).length by rw[QV,←HM6.1];omega);have HV7:=qe hv7;clear hv7 ht7;go_wp2_with fail
        refine(qaQ w6 w6.heap.size m7 c6 w6.heap.size 16 cr A6 (some ⟨gr,0,none⟩) (qs.take m7) (kI key) (HQ6.1.take m7) (QI _) HL7.1 (((HRr.1.below (HB.1.trans (HB6.1.mono HB.1.size))).more (by have:=HB.1.size;omega))) (QI _) HRl.1 (fun z hz=>HD6.1 z (J5 hz)) HRd.1 (by omega) (by omega)).mono ?_;rintro e w8 ⟨v8,ps,rfl,hop,hdp,hvp,hlp,hbp⟩;obtain⟨A8,c8,rfl,-,-,hc8,-⟩:=hop.shape' (n:=m7+16+1) hlp
        have HP8:=qe hop.rd;have HD8:=qe hdp;have HL8:=qe hlp;have HV8:=qe (show qC ps=(qC zs+(zx (qO text k)+256^(qO text k).length))*rN key by rw[hvp,HV7.1,HV6.1,HPv.1,HRv.1]);have HB8:=qe (show Below wr.heap.size wr w8 from HB6.1.trans (hbp.mono hz6));have hz8:wr.heap.size≤w8.heap.size:=HB8.1.size;clear hop hdp hvp hlp hbp HQ6 HD6 HV6 HB6 HV7 HL7;go_wp2_with fail
        refine(uX w8 w8.heap.size (m7+16+1) c8 A8 ps HP8.1 HL8.1.symm hc8 (by omega)).mono ?_;rintro e w9 ⟨m9,rfl,hm9,hv9,ht9,rfl⟩;go_wp2_with fail
        refine(qfo w8 w8.heap.size m9 c8 A8 (ps.take m9) (HP8.1.take m9) (QI _) (by rw[QV,HL8.1];omega) (by omega) (fun z hz=>HD8.1 z (J5 hz)) (by rw[hv9];exact ht9) (by omega)).mono ?_;rintro e w10 ⟨A10,m10,c10,rs,rfl,hr10,hm10,hmc10,hm17',hd10,hv10,hl10,hb10⟩;rw[hv9,HV8.1,qfq _ _ _ _ HV.1]at hv10;have HR10:=qe hr10;have HD10:=qe hd10;have HV10:=qe hv10
        have HM10:=qe hm10;have HL10:=qe hl10;have HB10:=qe (show Below w3.heap.size w3 w10 from HB.1.trans ((HB8.1.trans (hb10.mono hz8)).mono HB.1.size));clear hr10 hd10 hv10 hm10 hl10 hb10 hv9 ht9;go_wp2_with fail
        exact⟨⟨k+1,at_+16,A10,m10,c10,rs,by rw[HAt.1];omega,by(first|(simp;done)|(simp;omega)),by omega,rfl,HR10.1,HM10.1,hm17',HD10.1,HV10.1,HL10.1,HB10.1⟩,by simp[intOf];omega⟩
      ·have hlt':¬((at_:Int)<(n:Int)):=by omega
       have HVk:=qe (show qC zs % prm=ub (rN key) text ((text.length+15)/16) by
        have hk:k=(text.length+15)/16:=by have:=HAt.1;have:=HN.1;omega
        rw[←hk];exact HV.1)
       clear HV HAt hatn;go_wp2_with fail
       have hsz1:(wr.alloc (.cells #[.int .i64 5] 3)).heap.size=wr.heap.size+1:=QQ ..;refine(kS (wr.alloc (.cells #[.int .i64 5] 3)) wr.heap.size m cs (wr.heap.size+1) 1 1 As (some ⟨wr.heap.size,0,none⟩) zs [5] (HS.1.alloc (QI _) _) (by rw[hsz1];omega) HM.1 (Rd.new dN wr 3 [5]) (by rw[hsz1];omega) rfl HD.1 (by intro x hx;rw[Je.1 hx];omega) (by omega) (by omega)).mono ?_
       rintro e w4 ⟨v4,ms,rfl,hom,hdm,hvm,hlm,hbm⟩;obtain⟨M,hM⟩:∃M,M=ms.length:=⟨_,rfl⟩;have hMb:M≤18:=by omega
       obtain⟨hl1,hl2⟩:=qls (qC zs) ms hdm (by rw[hvm];simp[qC]) HVl.1;have HB4':=qe (show Below wr.heap.size wr w4 from((QK _ wr).alloc (QI _) _).trans (hbm.mono (by rw[hsz1];omega)));have hz4:wr.heap.size≤w4.heap.size:=HB4'.1.size;have HS4:=qe ((HS.1.below HB4'.1).more hz4);have HBw:=qe (show Below w3.heap.size w3 w4 from HB.1.trans (HB4'.1.mono HB.1.size));have hz34:w3.heap.size≤w4.heap.size:=HBw.1.size
       have hz3r:w3.heap.size≤wr.heap.size:=HB.1.size;clear hsz1 hvm hlm hbm HB4' HS HB;by_cases h17:17≤M
       ·obtain⟨g,cg,rfl,hg1,hg2,hcg⟩:=hom.form' hM.symm (by omega)
        obtain⟨d,hd⟩:∃d,d=dig ms 16:=⟨_,rfl⟩;have hpl:16<ms.length:=by omega
        have hc:=(hom.at_ (k:=16) hpl).1;have hf:=(hom.at_ (k:=16) hpl).2;have hc':w4.cell? ⟨g,16,none⟩=some (.int .i64 (d:Int)):=by rw[hc,hd];simp[dN,dig,QR,hpl]
        have h17':(M:Int)≥17:=by omega
        by_cases h4:4≤d
        ·have h4':(d:Int)≥4:=by omega
         have HFv:=qe (show qC (ms.set 16 (d % 4))=ub (rN key) text ((text.length+15)/16) by rw[←HVk.1,hd];exact hl1 ⟨by omega,by rw[←hd];exact h4⟩);have HFd:=qe (show zP (ms.set 16 (d % 4))from qbi hdm _ (by omega));have HFl:=qe (show M=(ms.set 16 (d % 4)).length by rw[Jy];exact hM);have HFo:=qe (show Own dN (w4.setCell ⟨g,16,none⟩ (.int .i64 ((d:Int) % 4))) (wr.heap.size+1) 3 (.slice (some ⟨g,0,none⟩) M cg) (ms.set 16 (d % 4)) by
          have h:=(hom.set_ 16 (d % 4)).1;rw[QQ]at h;have e:dN (d % 4)= .int .i64 ((d:Int) % 4):=by unfold dN;rw[Int.natCast_emod];rfl
          rw[e]at h;exact h)
         have HFb:=qe (show Below w3.heap.size w3 (w4.setCell ⟨g,16,none⟩ (.int .i64 ((d:Int) % 4)))from HBw.1.setCell (p:=⟨g,16,none⟩) (by rw[QQ]at hg1;show w3.heap.size≤g;omega) _);have HFr:=qe HFo.1.rd;clear hc hd hpl hM hdm hom hl1 hl2 hg1 HFo;go_wp2_with fail
         generalize w4.setCell ⟨g,16,none⟩ (.int .i64 ((d:Int) % 4))=wf at HFr HFb ⊢;have hzf:w3.heap.size≤wf.heap.size:=HFb.1.size;refine(ke wf wf.heap.size 16 16 (some ⟨w.heap.size,16,none⟩) (key.drop 16) (by
          have h:=((HKr.1.below HB4.1).drop 16).more (show w1.heap.size≤w3.heap.size by omega);exact(h.below HFb.1).more hzf) (QI _) (by rw[Jf,HK.1]) (by omega)).mono ?_
         rintro e w5 ⟨v5,rfl,ho5,hb5⟩;have hl16:((key.drop 16).map JO).length=16:=by rw[QN,Jf,HK.1]
         obtain⟨A5,c5,rfl,-,-,-,-⟩:=ho5.shape' hl16;have HN5:=qe ho5.rd;have HL5:=qe hl16;have hz5:=hb5.size;have HF5:=qe ((HFr.1.below hb5).more hz5);have HB5:=qe (HFb.1.trans (hb5.mono hzf));clear ho5 hb5 hl16;go_wp2_with fail
         refine(kS w5 w5.heap.size M cg w5.heap.size 16 c5 (some ⟨g,0,none⟩) A5 (ms.set 16 (d % 4)) _ HF5.1 (QI _) HFl.1 HN5.1 (QI _) HL5.1.symm HFd.1 (vQ _) (by omega) (by omega)).mono ?_;rintro e w6 ⟨v6,al,rfl,hoa,hda,hva,hla,hba⟩;obtain⟨L,hL⟩:∃L,L=al.length:=⟨_,rfl⟩;obtain⟨A6,c6,rfl,-,-,-,-⟩:=hoa.shape' (n:=L) hL.symm;have hLb:L≤19:=by omega
         have HA6:=qe hoa.rd;have HD6:=qe hda;have HL6:=qe hL;have HV6:=qe (show qC al % 340282366920938463463374607431768211456=qhr key text by rw[hva,HFv.1,←km];rfl);have HB6:=qe (HB5.1.trans (hba.mono (by have:=HB5.1.size;omega)):Below w3.heap.size w3 w6);have hz6:w3.heap.size≤w6.heap.size:=HB6.1.size;clear hoa hda hva hla hba hL HF5 HB5 HN5 HL5;have HZ6:=qe (Arr.new b8 w6 147 (QL 16 0#8))
         have HB7:=qe ((QK w6.heap.size w6).alloc (QI _) (.cells ((QL 16 0#8).map b8).toArray 147));go_wp2_with fail
         go_loopw [15] (fun iv wr=>∃i:Nat,i≤16∧i≤L∧iv= .int .i64 (i:Int)∧Arr b8 wr w6.heap.size 147 (kf al i)∧Below w6.heap.size w6 wr) (fun iv _=>16-(intOf iv).toNat)
         case atStart=>exact⟨0,by omega,by omega,rfl,by rw[qbM];exact HZ6.1,HB7.1⟩
         case round=>
          obtain⟨i,hi16,hiL,rfl,ha,hb⟩:=hrel;have HA:=qe ha;have HB:=qe hb;clear ha hb;by_cases hlt:i<16∧i<L
          ·obtain⟨hlt16,hltL⟩:=hlt
           have hlt1:(i:Int)<16:=by omega
           have hlt2:(i:Int)<(L:Int):=by omega
           obtain⟨d,hd⟩:∃d,d=dig al i:=⟨_,rfl⟩;have hd256:d<256:=by rw[hd];exact ze HD6.1 i
           obtain⟨b6,o6,rfl,-,hc⟩:=(HA6.1.below HB.1).at_ (k:=i) (by rw[←HL6.1];exact hltL);have hc':wr.cell? ⟨b6,o6+i,none⟩=some (.int .i64 (d:Int)):=by rw[hc,hd];simp[dN,dig,QR,show i<al.length by rw[←HL6.1];exact hltL]
           obtain⟨y,hy⟩:∃y,(kf al i)[i]?=some y:=⟨_,QT (by rw[qcN];exact hlt16)⟩;have hco:wr.cell? ⟨w6.heap.size,i,none⟩=some (.int .u8 (bv y)):=HA.1.at_ hy;have hfo:=HA.1.frozen i;have HS:=qe (show Arr b8 (wr.setCell ⟨w6.heap.size,i,none⟩ (.int .u8 (d:Int))) w6.heap.size 147 (kf al (i+1)) by
            have h:=HA.1.set_ i (QP 8 (dig al i));rw[qcO]at h;have e:b8 (QP 8 (dig al i))= .int .u8 (d:Int):=by
             have hm:d % 2^8=d:=JP hd256;show Value.int .u8 (((QP 8 (dig al i)).toNat:Nat):Int)=_;rw[←hd,Q8,hm]
            rw[e]at h;exact h)
           clear hc hd hy;go_wp2_with fail
           exact⟨⟨i+1,by omega,by omega,by simp,HS.1,HB.1.setCell (p:=⟨w6.heap.size,i,none⟩) (QI _) _⟩,by simp[intOf];omega⟩
          ·have HZ:=qe (HOe.1 al i HD6.1 (by rw[←HL6.1];omega) HV6.1)
           have HAm:=qe (HA.1.cast HZ.1);have HR1:=qe (show Arr b8 wr (w.heap.size+1) 147 (QL 16 0#8)from((HO1.1.below HB4.1 (by omega)).below (HB6.1.mono (QI _)) (by omega)).below HB.1 (by omega));have HBe:=qe (show Below w.heap.size w wr from(HB1.1.trans (HB4.1.mono (by omega))).trans ((HB6.1.mono (by omega)).trans (HB.1.mono (by omega))));by_cases hlt16:i<16
           ·have hlt1:(i:Int)<16:=by omega
            have hlt2:¬((i:Int)<(L:Int)):=by omega
            go_wp2_with (first
             |(refine qm rfl 147 (.tmp 14) rfl w6.heap.size rfl _ O HAm.1 _ underlying147 rfl (by rw[jM,HML.1]) ?_)
             |(refine qk rfl 147 (.tmp 4) (.tmp 112) rfl (w.heap.size+1) rfl O rfl _ _ HR1.1 (by rw[HML.1];rfl) (by rw[jM,HML.1]) qU ?_;intro w9 hp9 hg9;have HP9:=qe hp9;have HG9:=qe hg9;clear hp9 hg9))
            refine bodyPost_ret (v:= .agg (O.map b8).toArray) (qY (g:=w.heap.size+1) rfl _ _ _ _ _ rfl HP9.1 underlying147 rfl (by rw[jM,HML.1])) rfl ?_;exact⟨rfl,HBe.1.grown HG9.1 HBe.1.size (fun k e=>by cases e;omega)⟩
           ·have hlt1:¬((i:Int)<16):=by omega
            go_wp2_with (first
             |(refine qm rfl 147 (.tmp 14) rfl w6.heap.size rfl _ O HAm.1 _ underlying147 rfl (by rw[jM,HML.1]) ?_)
             |(refine qk rfl 147 (.tmp 4) (.tmp 112) rfl (w.heap.size+1) rfl O rfl _ _ HR1.1 (by rw[HML.1];rfl) (by rw[jM,HML.1]) qU ?_;intro w9 hp9 hg9;have HP9:=qe hp9;have HG9:=qe hg9;clear hp9 hg9))
            refine bodyPost_ret (v:= .agg (O.map b8).toArray) (qY (g:=w.heap.size+1) rfl _ _ _ _ _ rfl HP9.1 underlying147 rfl (by rw[jM,HML.1])) rfl ?_;exact⟨rfl,HBe.1.grown HG9.1 HBe.1.size (fun k e=>by cases e;omega)⟩
        ·have h4':¬((d:Int)≥4):=by omega
         have HFv:=qe (show qC zs=ub (rN key) text ((text.length+15)/16)from(hl2 (fun h=>h4 (by rw[hd];exact h.2))).trans HVk.1);have HFr:=qe HS4.1;have HFd:=qe HD.1;have HFl:=qe HM.1;have HFb:=qe HBw.1;clear hc hd hpl hM hdm hom hl1 hl2 hg1;have hq1:decide ((4:Int)≤(d:Int))=false:=by simp;omega
         have hq2:(d:Int)<4:=by omega
         have hq3:((d:Int)≥4)=False:=by simp;omega
         clear h4 h4';go_wp2_with fail
         clear hq1 hq2 hq3 hc' hf hz4 HBw HS4 hz34 h17';generalize w4=wf at HFr HFb ⊢;have hzf:w3.heap.size≤wf.heap.size:=HFb.1.size;refine(ke wf wf.heap.size 16 16 (some ⟨w.heap.size,16,none⟩) (key.drop 16) (by
          have h:=((HKr.1.below HB4.1).drop 16).more (show w1.heap.size≤w3.heap.size by omega);exact(h.below HFb.1).more hzf) (QI _) (by rw[Jf,HK.1]) (by omega)).mono ?_
         rintro e w5 ⟨v5,rfl,ho5,hb5⟩;have hl16:((key.drop 16).map JO).length=16:=by rw[QN,Jf,HK.1]
         obtain⟨A5,c5,rfl,-,-,-,-⟩:=ho5.shape' hl16;have HN5:=qe ho5.rd;have HL5:=qe hl16;have hz5:=hb5.size;have HF5:=qe ((HFr.1.below hb5).more hz5);have HB5:=qe (HFb.1.trans (hb5.mono hzf));clear ho5 hb5 hl16;go_wp2_with fail
         refine(kS w5 w5.heap.size m cs w5.heap.size 16 c5 As A5 zs _ HF5.1 (QI _) HFl.1 HN5.1 (QI _) HL5.1.symm HFd.1 (vQ _) (by omega) (by omega)).mono ?_;rintro e w6 ⟨v6,al,rfl,hoa,hda,hva,hla,hba⟩;obtain⟨L,hL⟩:∃L,L=al.length:=⟨_,rfl⟩;obtain⟨A6,c6,rfl,-,-,-,-⟩:=hoa.shape' (n:=L) hL.symm;have hLb:L≤19:=by omega
         have HA6:=qe hoa.rd;have HD6:=qe hda;have HL6:=qe hL;have HV6:=qe (show qC al % 340282366920938463463374607431768211456=qhr key text by rw[hva,HFv.1,←km];rfl);have HB6:=qe (HB5.1.trans (hba.mono (by have:=HB5.1.size;omega)):Below w3.heap.size w3 w6);have hz6:w3.heap.size≤w6.heap.size:=HB6.1.size;clear hoa hda hva hla hba hL HF5 HB5 HN5 HL5;have HZ6:=qe (Arr.new b8 w6 147 (QL 16 0#8))
         have HB7:=qe ((QK w6.heap.size w6).alloc (QI _) (.cells ((QL 16 0#8).map b8).toArray 147));go_wp2_with fail
         go_loopw [15] (fun iv wr=>∃i:Nat,i≤16∧i≤L∧iv= .int .i64 (i:Int)∧Arr b8 wr w6.heap.size 147 (kf al i)∧Below w6.heap.size w6 wr) (fun iv _=>16-(intOf iv).toNat)
         case atStart=>exact⟨0,by omega,by omega,rfl,by rw[qbM];exact HZ6.1,HB7.1⟩
         case round=>
          obtain⟨i,hi16,hiL,rfl,ha,hb⟩:=hrel;have HA:=qe ha;have HB:=qe hb;clear ha hb;by_cases hlt:i<16∧i<L
          ·obtain⟨hlt16,hltL⟩:=hlt
           have hlt1:(i:Int)<16:=by omega
           have hlt2:(i:Int)<(L:Int):=by omega
           obtain⟨d,hd⟩:∃d,d=dig al i:=⟨_,rfl⟩;have hd256:d<256:=by rw[hd];exact ze HD6.1 i
           obtain⟨b6,o6,rfl,-,hc⟩:=(HA6.1.below HB.1).at_ (k:=i) (by rw[←HL6.1];exact hltL);have hc':wr.cell? ⟨b6,o6+i,none⟩=some (.int .i64 (d:Int)):=by rw[hc,hd];simp[dN,dig,QR,show i<al.length by rw[←HL6.1];exact hltL]
           obtain⟨y,hy⟩:∃y,(kf al i)[i]?=some y:=⟨_,QT (by rw[qcN];exact hlt16)⟩;have hco:wr.cell? ⟨w6.heap.size,i,none⟩=some (.int .u8 (bv y)):=HA.1.at_ hy;have hfo:=HA.1.frozen i;have HS:=qe (show Arr b8 (wr.setCell ⟨w6.heap.size,i,none⟩ (.int .u8 (d:Int))) w6.heap.size 147 (kf al (i+1)) by
            have h:=HA.1.set_ i (QP 8 (dig al i));rw[qcO]at h;have e:b8 (QP 8 (dig al i))= .int .u8 (d:Int):=by
             have hm:d % 2^8=d:=JP hd256;show Value.int .u8 (((QP 8 (dig al i)).toNat:Nat):Int)=_;rw[←hd,Q8,hm]
            rw[e]at h;exact h)
           clear hc hd hy;go_wp2_with fail
           exact⟨⟨i+1,by omega,by omega,by simp,HS.1,HB.1.setCell (p:=⟨w6.heap.size,i,none⟩) (QI _) _⟩,by simp[intOf];omega⟩
          ·have HZ:=qe (HOe.1 al i HD6.1 (by rw[←HL6.1];omega) HV6.1)
           have HAm:=qe (HA.1.cast HZ.1);have HR1:=qe (show Arr b8 wr (w.heap.size+1) 147 (QL 16 0#8)from((HO1.1.below HB4.1 (by omega)).below (HB6.1.mono (QI _)) (by omega)).below HB.1 (by omega));have HBe:=qe (show Below w.heap.size w wr from(HB1.1.trans (HB4.1.mono (by omega))).trans ((HB6.1.mono (by omega)).trans (HB.1.mono (by omega))));by_cases hlt16:i<16
           ·have hlt1:(i:Int)<16:=by omega
            have hlt2:¬((i:Int)<(L:Int)):=by omega
            go_wp2_with (first
             |(refine qm rfl 147 (.tmp 14) rfl w6.heap.size rfl _ O HAm.1 _ underlying147 rfl (by rw[jM,HML.1]) ?_)
             |(refine qk rfl 147 (.tmp 4) (.tmp 112) rfl (w.heap.size+1) rfl O rfl _ _ HR1.1 (by rw[HML.1];rfl) (by rw[jM,HML.1]) qU ?_;intro w9 hp9 hg9;have HP9:=qe hp9;have HG9:=qe hg9;clear hp9 hg9))
            refine bodyPost_ret (v:= .agg (O.map b8).toArray) (qY (g:=w.heap.size+1) rfl _ _ _ _ _ rfl HP9.1 underlying147 rfl (by rw[jM,HML.1])) rfl ?_;exact⟨rfl,HBe.1.grown HG9.1 HBe.1.size (fun k e=>by cases e;omega)⟩
           ·have hlt1:¬((i:Int)<16):=by omega
            go_wp2_with (first
             |(refine qm rfl 147 (.tmp 14) rfl w6.heap.size rfl _ O HAm.1 _ underlying147 rfl (by rw[jM,HML.1]) ?_)
             |(refine qk rfl 147 (.tmp 4) (.tmp 112) rfl (w.heap.size+1) rfl O rfl _ _ HR1.1 (by rw[HML.1];rfl) (by rw[jM,HML.1]) qU ?_;intro w9 hp9 hg9;have HP9:=qe hp9;have HG9:=qe hg9;clear hp9 hg9))
            refine bodyPost_ret (v:= .agg (O.map b8).toArray) (qY (g:=w.heap.size+1) rfl _ _ _ _ _ rfl HP9.1 underlying147 rfl (by rw[jM,HML.1])) rfl ?_;exact⟨rfl,HBe.1.grown HG9.1 HBe.1.size (fun k e=>by cases e;omega)⟩
       ·have h17':¬((M:Int)≥17):=by omega
        obtain⟨A4,c4,rfl,-,-,-,-⟩:=hom.shape' hM.symm;have HFv:=qe (show qC zs=ub (rN key) text ((text.length+15)/16)from(hl2 (fun h=>h17 (by rw[hM];exact h.1))).trans HVk.1);have HFr:=qe HS4.1;have HFd:=qe HD.1;have HFl:=qe HM.1;have HFb:=qe HBw.1;clear hM hdm hom hl1 hl2;have hq1:decide ((17:Int)≤(M:Int))=false:=by simp;omega
        have hq2:(M:Int)<17:=by omega
        have hq3:((M:Int)≥17)=False:=by simp;omega
        clear h17 h17';go_wp2_with fail
        clear hq1 hq2 hq3 hz4 HBw HS4 hz34;generalize w4=wf at HFr HFb ⊢;have hzf:w3.heap.size≤wf.heap.size:=HFb.1.size;refine(ke wf wf.heap.size 16 16 (some ⟨w.heap.size,16,none⟩) (key.drop 16) (by
         have h:=((HKr.1.below HB4.1).drop 16).more (show w1.heap.size≤w3.heap.size by omega);exact(h.below HFb.1).more hzf) (QI _) (by rw[Jf,HK.1]) (by omega)).mono ?_
        rintro e w5 ⟨v5,rfl,ho5,hb5⟩;have hl16:((key.drop 16).map JO).length=16:=by rw[QN,Jf,HK.1]
        obtain⟨A5,c5,rfl,-,-,-,-⟩:=ho5.shape' hl16;have HN5:=qe ho5.rd;have HL5:=qe hl16;have hz5:=hb5.size;have HF5:=qe ((HFr.1.below hb5).more hz5);have HB5:=qe (HFb.1.trans (hb5.mono hzf));clear ho5 hb5 hl16;go_wp2_with fail
        refine(kS w5 w5.heap.size m cs w5.heap.size 16 c5 As A5 zs _ HF5.1 (QI _) HFl.1 HN5.1 (QI _) HL5.1.symm HFd.1 (vQ _) (by omega) (by omega)).mono ?_;rintro e w6 ⟨v6,al,rfl,hoa,hda,hva,hla,hba⟩;obtain⟨L,hL⟩:∃L,L=al.length:=⟨_,rfl⟩;obtain⟨A6,c6,rfl,-,-,-,-⟩:=hoa.shape' (n:=L) hL.symm;have hLb:L≤19:=by omega
        have HA6:=qe hoa.rd;have HD6:=qe hda;have HL6:=qe hL;have HV6:=qe (show qC al % 340282366920938463463374607431768211456=qhr key text by rw[hva,HFv.1,←km];rfl);have HB6:=qe (HB5.1.trans (hba.mono (by have:=HB5.1.size;omega)):Below w3.heap.size w3 w6);have hz6:w3.heap.size≤w6.heap.size:=HB6.1.size;clear hoa hda hva hla hba hL HF5 HB5 HN5 HL5;have HZ6:=qe (Arr.new b8 w6 147 (QL 16 0#8))
        have HB7:=qe ((QK w6.heap.size w6).alloc (QI _) (.cells ((QL 16 0#8).map b8).toArray 147));go_wp2_with fail
        go_loopw [15] (fun iv wr=>∃i:Nat,i≤16∧i≤L∧iv= .int .i64 (i:Int)∧Arr b8 wr w6.heap.size 147 (kf al i)∧Below w6.heap.size w6 wr) (fun iv _=>16-(intOf iv).toNat)
        case atStart=>exact⟨0,by omega,by omega,rfl,by rw[qbM];exact HZ6.1,HB7.1⟩
        case round=>
         obtain⟨i,hi16,hiL,rfl,ha,hb⟩:=hrel;have HA:=qe ha;have HB:=qe hb;clear ha hb;by_cases hlt:i<16∧i<L
         ·obtain⟨hlt16,hltL⟩:=hlt
          have hlt1:(i:Int)<16:=by omega
          have hlt2:(i:Int)<(L:Int):=by omega
          obtain⟨d,hd⟩:∃d,d=dig al i:=⟨_,rfl⟩;have hd256:d<256:=by rw[hd];exact ze HD6.1 i
          obtain⟨b6,o6,rfl,-,hc⟩:=(HA6.1.below HB.1).at_ (k:=i) (by rw[←HL6.1];exact hltL);have hc':wr.cell? ⟨b6,o6+i,none⟩=some (.int .i64 (d:Int)):=by rw[hc,hd];simp[dN,dig,QR,show i<al.length by rw[←HL6.1];exact hltL]
          obtain⟨y,hy⟩:∃y,(kf al i)[i]?=some y:=⟨_,QT (by rw[qcN];exact hlt16)⟩;have hco:wr.cell? ⟨w6.heap.size,i,none⟩=some (.int .u8 (bv y)):=HA.1.at_ hy;have hfo:=HA.1.frozen i;have HS:=qe (show Arr b8 (wr.setCell ⟨w6.heap.size,i,none⟩ (.int .u8 (d:Int))) w6.heap.size 147 (kf al (i+1)) by
           have h:=HA.1.set_ i (QP 8 (dig al i));rw[qcO]at h;have e:b8 (QP 8 (dig al i))= .int .u8 (d:Int):=by
            have hm:d % 2^8=d:=JP hd256;show Value.int .u8 (((QP 8 (dig al i)).toNat:Nat):Int)=_;rw[←hd,Q8,hm]
           rw[e]at h;exact h)
          clear hc hd hy;go_wp2_with fail
          exact⟨⟨i+1,by omega,by omega,by simp,HS.1,HB.1.setCell (p:=⟨w6.heap.size,i,none⟩) (QI _) _⟩,by simp[intOf];omega⟩
         ·have HZ:=qe (HOe.1 al i HD6.1 (by rw[←HL6.1];omega) HV6.1)
          have HAm:=qe (HA.1.cast HZ.1);have HR1:=qe (show Arr b8 wr (w.heap.size+1) 147 (QL 16 0#8)from((HO1.1.below HB4.1 (by omega)).below (HB6.1.mono (QI _)) (by omega)).below HB.1 (by omega));have HBe:=qe (show Below w.heap.size w wr from(HB1.1.trans (HB4.1.mono (by omega))).trans ((HB6.1.mono (by omega)).trans (HB.1.mono (by omega))));by_cases hlt16:i<16
          ·have hlt1:(i:Int)<16:=by omega
           have hlt2:¬((i:Int)<(L:Int)):=by omega
           go_wp2_with (first
            |(refine qm rfl 147 (.tmp 14) rfl w6.heap.size rfl _ O HAm.1 _ underlying147 rfl (by rw[jM,HML.1]) ?_)
            |(refine qk rfl 147 (.tmp 4) (.tmp 112) rfl (w.heap.size+1) rfl O rfl _ _ HR1.1 (by rw[HML.1];rfl) (by rw[jM,HML.1]) qU ?_;intro w9 hp9 hg9;have HP9:=qe hp9;have HG9:=qe hg9;clear hp9 hg9))
           refine bodyPost_ret (v:= .agg (O.map b8).toArray) (qY (g:=w.heap.size+1) rfl _ _ _ _ _ rfl HP9.1 underlying147 rfl (by rw[jM,HML.1])) rfl ?_;exact⟨rfl,HBe.1.grown HG9.1 HBe.1.size (fun k e=>by cases e;omega)⟩
          ·have hlt1:¬((i:Int)<16):=by omega
           go_wp2_with (first
            |(refine qm rfl 147 (.tmp 14) rfl w6.heap.size rfl _ O HAm.1 _ underlying147 rfl (by rw[jM,HML.1]) ?_)
            |(refine qk rfl 147 (.tmp 4) (.tmp 112) rfl (w.heap.size+1) rfl O rfl _ _ HR1.1 (by rw[HML.1];rfl) (by rw[jM,HML.1]) qU ?_;intro w9 hp9 hg9;have HP9:=qe hp9;have HG9:=qe hg9;clear hp9 hg9))
           refine bodyPost_ret (v:= .agg (O.map b8).toArray) (qY (g:=w.heap.size+1) rfl _ _ _ _ _ rfl HP9.1 underlying147 rfl (by rw[jM,HML.1])) rfl ?_;exact⟨rfl,HBe.1.grown HG9.1 HBe.1.size (fun k e=>by cases e;omega)⟩
theorem qjc(w:World):Own b8 (w.alloc (.cells #[] 5)) w.heap.size 5 (.slice (some ⟨w.heap.size,0,none⟩) 0 0) []:=
 ⟨by simp,.inr ⟨w.heap.size,0,#[],rfl,QI _,heap_alloc_new w _,by simp,by simp[maxLen],by simp,by simp⟩⟩
theorem qn1{w w':World}{o:Obj}(h:Below w.heap.size w w'):Below w.heap.size w (w'.alloc o):=h.alloc h.size o
theorem qn2{w w':World}(h:Below w.heap.size w w'):Below w.heap.size w w'.drew:=h.drew
def qj9:Value→Nat
 | .slice _ n _=>n
 |_=>0
theorem qaR{n:Nat}(h:n % 16≠0):zv (n+1)+1=zv n:=by unfold zv;omega
theorem qex{n:Nat}(h:n % 16=0):zv n=0:=by unfold zv;omega
def yP(BL:qf)(k:Nat):qf:=BL.take k++QL (32-k) 0#8
theorem qlu(BL:qf)(h:BL.length=64)(k:Nat)(hk:k≤32):(yP BL k).length=32:=by
 unfold yP;simp[h];omega
theorem qlv(BL:qf)(h:BL.length=64)(k:Nat)(hk:k<32):(yP BL k).set k (BL.getD k 0#8)=yP BL (k+1):=by
 unfold yP;obtain⟨m,hm⟩:∃m,32-k=m+1:=⟨31-k,by omega⟩;rw[hm,List.set_append_right _ _ (by simp;omega),show 32-(k+1)=m by omega,List.take_succ_eq_append_getElem (by omega)];have e:k-(BL.take k).length=0:=by simp;omega
 rw[e,List.replicate_succ,qz,Jb];simp[QR,show k<BL.length by omega]
theorem qn3:(prog.info? 157).map (·.size)=some 64:=by kernel_rfl
theorem qka:(prog.info? 92).map (·.size)=some 32:=by kernel_rfl
theorem qgk(w:World)(key:qf)(hk:key.length=32)(A C T:Option Addr)(n c l cc m d Bn Bc Bm:Nat)(nonce ctx mixed:qf)
 (hrn:Rd b8 w Bn A nonce)(hBn:Bn≤w.heap.size)(hn:nonce.length=n)(h12:n=12)(hnc:n≤c)
 (hrc:Rd b8 w Bc C ctx)(hBc:Bc≤w.heap.size)(hl:ctx.length=l)(hlb:l≤1100000)
 (hrm:Rd b8 w Bm T mixed)(hBm:Bm≤w.heap.size)(hm:mixed.length=m)(hmb:m≤1100000):
 Calls prog 79 #[jL b8 key,.slice A n c,.slice C l cc,.slice T m d] w fun e w'=>e= .returned (.agg ((uc key nonce ctx mixed).map b8).toArray)∧Below w.heap.size w w':=by
 subst h12;obtain⟨i0,hi0,hz0,hz1,hz2⟩:=info_parts jN;have HK:=qe hk;have HN:=qe hn;have HL:=qe hl;have HM:=qe hm;have HRn:=qe (hrn.more hBn);have HRc:=qe (hrc.more hBc);have HRm:=qe (hrm.more hBm);clear hk hn hl hm hrn hrc hrm hBn hBc hBm;obtain⟨O,hO⟩:∃O,O=uc key nonce ctx mixed:=⟨_,rfl⟩;have HML:=qe (show O.length=16 by rw[hO];exact jT _ _ _ _);have HOe:=qe hO
 rw[←hO];clear hO;rw[qn];go_enter func79,ntmps79
 have HK1:=qe (Arr.alloc (Arr.new b8 w 92 key) (.cells ((QL 16 0#8).map b8).toArray 147));go_wp2_with (refine qm rfl 92 (.tmp 4) rfl w.heap.size rfl _ key HK1.1 _ underlying92 rfl (by rw[HK.1];exact qka) ?_)
 have HO1:=qe (Arr.at_size b8 (w:=w.alloc (.cells (key.map b8).toArray 92)) (k:=w.heap.size+1) 147 (QL 16 0#8) (QQ ..));have HB1:=qe (show Below w.heap.size w ((w.alloc (.cells (key.map b8).toArray 92)).alloc (.cells ((QL 16 0#8).map b8).toArray 147))from((QK _ w).alloc (QI _) _).alloc (by simp) _);have hz1w:((w.alloc (.cells (key.map b8).toArray 92)).alloc (.cells ((QL 16 0#8).map b8).toArray 147)).heap.size=w.heap.size+2:=by simp
 change Calls _ _ _ ((w.alloc (.cells (key.map b8).toArray 92)).alloc (.cells ((QL 16 0#8).map b8).toArray 147)) _;generalize(w.alloc (.cells (key.map b8).toArray 92)).alloc (.cells ((QL 16 0#8).map b8).toArray 147)=w1 at HK1 HO1 HB1 hz1w ⊢;have hws:w.heap.size+2≤w1.heap.size:=by omega
 clear hz1w;have hpc:=qch key A 12 c w.heap.size nonce 0 w1 HK.1 (HRn.1.below HB1.1) (by omega) HN.1 hnc;rw[show zy 12 0=0 from rfl,qn,qn]at hpc;have HPc:=qe hpc;have HBl:=qe (kF key nonce 0);have HZk:=qe (show zN key nonce=(j0 key nonce 0).take 32 from by unfold zN;exact(Eq.refl ((j0 key nonce 0).take 32)));generalize j0 key nonce 0=BL at HPc HBl HZk
 clear hpc;refine HPc.1.mono ?_;rintro e w2 ⟨rfl,hb2⟩;have hz2w:=hb2.size;have HB2:=qe (HB1.1.trans (hb2.mono (by omega)));have HO2:=qe (HO1.1.below hb2 (by omega));have HT2:=qe (Arr.new b8 w2 157 (QL 64 0#8));clear hb2 HPc HB1 HO1 HK1;go_wp2_with (refine qk rfl 157 (.tmp 9) (.tmp 18) rfl w2.heap.size rfl BL rfl _ _ HT2.1 (by rw[HBl.1];rfl) (by rw[HBl.1];exact qn3) qU ?_;intro w3 hx3 hg3;have HX3:=qe hx3;have HG3:=qe hg3;clear hx3 hg3)
 have hsz3:w2.heap.size<w3.heap.size:=HX3.1.lt;have hb23:Below w2.heap.size w2 w3:=(((QK w2.heap.size w2).alloc (QI _) (.cells ((QL 64 0#8).map b8).toArray 157)).grown HG3.1 (by simp) (fun k e=>by cases e;exact QI _));have HB4:=qe (show Below w.heap.size w (w3.alloc (.cells ((QL 32 0#8).map b8).toArray 92))from(HB2.1.trans (hb23.mono HB2.1.size)).alloc (by omega) _)
 have HX4:=qe (HX3.1.alloc (.cells ((QL 32 0#8).map b8).toArray 92));have HO4:=qe ((HO2.1.below hb23 (by omega)).alloc (.cells ((QL 32 0#8).map b8).toArray 92));have HT4:=qe (Arr.new b8 w3 92 (QL 32 0#8));have hz4w:(w3.alloc (.cells ((QL 32 0#8).map b8).toArray 92)).heap.size=w3.heap.size+1:=by simp
 change Code.wp _ _ _ _ (w3.alloc (.cells ((QL 32 0#8).map b8).toArray 92));generalize w3.alloc (.cells ((QL 32 0#8).map b8).toArray 92)=w4 at HB4 HX4 HO4 HT4 hz4w ⊢;clear HX3 HG3 hb23 HT2 HB2 HO2;go_loopw [12] (fun iv wr=>∃k:Nat,k≤32∧iv= .int .i64 (k:Int)∧Arr b8 wr w3.heap.size 92 (yP BL k)∧w4.grownBy wr (some w3.heap.size)) (fun iv _=>32-(intOf iv).toNat)
 case atStart=>exact⟨0,by omega,rfl,by unfold yP;exact HT4.1,World.grownBy.refl _ _⟩
 case round=>
  obtain⟨k,hk32,rfl,ha,hg⟩:=hrel;have HA:=qe ha;have HG:=qe hg;have hzr:=hg.size;have hxr:=Arr.grown HX4.1 hg (by intro e;have:=Ju e;omega);by_cases hlt:k<32
  ·obtain⟨x,hx⟩:∃x,x=BL.getD k 0#8:=⟨_,rfl⟩
   have c1:=hxr.cellD (k:=k) (by rw[HBl.1];omega) 0#8;rw[←hx]at c1;have c1':wr.cell? ⟨w2.heap.size,k,none⟩=some (.int .u8 (bv x)):=c1;obtain⟨y,hy⟩:∃y,(yP BL k)[k]?=some y:=⟨_,QT (by rw[qlu BL HBl.1 k hk32];omega)⟩;have c2:wr.cell? ⟨w3.heap.size,k,none⟩=some (.int .u8 (bv y)):=ha.at_ hy;have f2:=ha.frozen k;have hli:(k:Int)<32:=by omega
   have HS:=qe (show Arr b8 (wr.setCell ⟨w3.heap.size,k,none⟩ (.int .u8 (bv x))) w3.heap.size 92 (yP BL (k+1)) by
    have h:=ha.set_ k x;rw[hx,qlv BL HBl.1 k hlt,←hx]at h;exact h)
   clear hx hy ha hg hxr c1;go_wp2_with fail
   exact⟨⟨k+1,by omega,by simp,HS.1,qp HG.1 (zL wr w3.heap.size k (.int .u8 (bv x))) (fun g e=> .inl e)⟩,by simp[intOf];omega⟩
  ·obtain rfl:k=32:=by omega
   rw[show(((32:Nat)):Int)=32 from rfl];have HKf:=qe (show Arr b8 wr w3.heap.size 92 (zN key nonce)from ha.cast (by unfold yP;rw[HZk.1];simp));have HOf:=qe (HO4.1.grown hg (by intro e;have:=Ju e;omega));have HBf:=qe (HB4.1.grown hg HB4.1.size (fun k e=>by have:=Ju e;omega));have hzf:w3.heap.size+1≤wr.heap.size:=by omega
   clear ha hg hxr HA HG hzr HX4 HO4 HB4 HT4 hz4w HZk HBl hlt hk32;generalize wr=wf at HKf HOf HBf hzf ⊢;have HE5:=qe (show Own b8 (wf.alloc (.cells #[] 5)) wf.heap.size 5 (.slice (some ⟨wf.heap.size,0,none⟩) 0 0) []from qjc wf);go_wp2_with (at_builtin;go_loud (refine qh rfl (.tmp 29) (.tmp 30) 28 rfl qH wf.heap.size 5 i0 _ 1 underlying28 hi0 hz0 hz1 hz2 rfl _ _ rfl HE5.1 w.heap.size _ _ _ ctx rfl HL.1.symm ((HRc.1.below HBf.1).alloc HBf.1.size _) (by have:=HL.1;first|(simp[maxLen];done)|(simp[maxLen];omega)) (by have:=HL.1;first|(simp;done)|(simp;omega)) (by have:=HBf.1.size;(first|omega|(simp;done)|(simp;omega)|(simp at*;omega))) ?_;intro v5 w5 hown5 hg5 hbb5))
   obtain⟨A5,c5,rfl,-,-,-,-⟩:=hown5.shape' (n:=l) (by simp[HL.1]);have HO5:=qe (hown5.cast (List.nil_append ctx));have HBx5:=qe (show Below wf.heap.size wf w5 from hbb5 _ _ (QI _) ((QK _ wf).alloc (QI _) _));have HF:=qe (show zv l=zv ctx.length by rw[HL.1]);clear hown5 hg5 hbb5 HE5;go_loopw [13] (fun v wr=>∃k n5 A5 c5,v= .slice A5 n5 c5∧n5=l+k∧k+zv n5=zv l∧Own b8 wr wf.heap.size 5 v (ctx++QL k 0#8)∧Below wf.heap.size wf wr) (fun v _=>zv (qj9 v))
   case atStart=>exact⟨0,l,A5,c5,rfl,rfl,by omega,by simpa using HO5.1,HBx5.1⟩
   case round=>
    obtain⟨k,n5,A5,c5,rfl,hn5,hk5,ho,hb⟩:=hrel;have HO:=qe ho;have HB:=qe hb;have HN5:=qe hn5;have HK5:=qe hk5;have hkb:k≤16:=by unfold zv at hk5;omega
    have hnb:n5≤1200000:=by omega
    have hzb:=hb.size;have hlx:(ctx++QL k 0#8).length=n5:=by rw[QO,Jz,HL.1,hn5]
    have HLx:=qe hlx;clear ho hb hn5 hk5 hlx;by_cases h16:n5 % 16=0
    ·have h16i:(n5:Int) % 16=0:=by omega
     have hk0:k=zv l:=by have:=HK5.1;rw[qex h16]at this;omega
     obtain⟨X,hX⟩:∃X,X=ctx++QL k 0#8:=⟨_,rfl⟩;rw[←hX]at HO HLx;have HX:=qe hX;have HFm:=qe (show zv (n5+m)=zv m by unfold zv;omega);have HK0:=qe hk0;clear hX hk0 HK5 HN5 HO5 HBx5;have hnf:=HBf.1.size;go_wp2_with (at_builtin;refine qh rfl (.tmp 39) (.tmp 40) 28 rfl qH wf.heap.size 5 i0 _ 1 underlying28 hi0 hz0 hz1 hz2 rfl _ _ rfl HO.1 w.heap.size _ _ _ mixed rfl HM.1.symm ((HRm.1.below HBf.1).below (HB.1.mono hnf)) (by have:=HLx.1;have:=HM.1;simp only[maxLen];omega) (by have:=HLx.1;have:=HM.1;omega) (by omega) ?_;intro v6 w6 hown6 hg6 hbb6;obtain⟨A6,c6,rfl,-,-,-,-⟩:=hown6.shape' (n:=n5+m) (by rw[QO,HLx.1,HM.1]))
     have HO6:=qe hown6;have HB6:=qe (show Below wf.heap.size wf w6 from hbb6 _ _ (QI _) HB.1);clear hown6 hg6 hbb6 HO HB;obtain⟨N2,hN2⟩:∃N2,N2=n5+m:=⟨_,rfl⟩;rw[←hN2]at HFm ⊢;have hl2:(X++mixed).length=N2:=by rw[QO,HLx.1,HM.1,hN2]
     have hN2b:N2≤2400000:=by omega
     obtain⟨X2,hX2⟩:∃X2,X2=X++mixed:=⟨_,rfl⟩;rw[←hX2]at hl2 HO6;rw[←hN2]at HO6;have HX2:=qe hX2;have HL2:=qe hl2;clear hX2 hl2 hN2 HLx hnb hzb hkb h16 h16i;go_loopw [13] (fun v wr=>∃k n5 A5 c5,v= .slice A5 n5 c5∧n5=N2+k∧k+zv n5=zv N2∧Own b8 wr wf.heap.size 5 v (X2++QL k 0#8)∧Below wf.heap.size wf wr) (fun v _=>zv (qj9 v))
     case atStart=>exact⟨0,N2,A6,c6,rfl,rfl,by omega,by simpa using HO6.1,HB6.1⟩
     case round=>
      obtain⟨k2,n7,A7,c7,rfl,hn7,hk7,ho,hb⟩:=hrel;have HO:=qe ho;have HB:=qe hb;have HN7:=qe hn7;have HK7:=qe hk7;have hkb:k2≤16:=by unfold zv at hk7;omega
      have hnb:n7≤2500000:=by omega
      have hzb:=hb.size;have hlx:(X2++QL k2 0#8).length=n7:=by rw[QO,Jz,HL2.1,hn7]
      have HLx:=qe hlx;clear ho hb hn7 hk7 hlx;by_cases h16:n7 % 16=0
      ·have h16i:(n7:Int) % 16=0:=by omega
       have hk0:k2=zv m:=by have:=HK7.1;rw[qex h16]at this;rw[←HFm.1];omega
       obtain⟨X3,hX3⟩:∃X3,X3=X2++QL k2 0#8:=⟨_,rfl⟩;rw[←hX3]at HO HLx;have HX3:=qe hX3;have HK2:=qe hk0;clear hX3 hk0 HK7 HN7 HO6 HB6;go_wp2_with fail
       refine(qfe l (by omega) _).mono ?_;rintro e w8 ⟨v8,rfl,ho8,hb8⟩;have hl8:(le8 (QP 64 l)).length=8:=za _;obtain⟨A8,c8,rfl,hr8,-,-,-⟩:=ho8.shape' hl8;have HO8:=qe (HO.1.below hb8 (QI _));have HB8:=qe (HB.1.trans (hb8.mono hzb));have HR8:=qe hr8;have hz8:=hb8.size;clear ho8 hb8 hr8 HO HB;go_wp2_with (at_builtin;refine qh rfl (.tmp 49) (.tmp 52) 28 rfl qH wf.heap.size 5 i0 _ 1 underlying28 hi0 hz0 hz1 hz2 rfl _ _ rfl HO8.1 w8.heap.size _ 8 _ _ rfl hl8.symm HR8.1 (by have:=HLx.1;simp only[maxLen];omega) (by have:=HLx.1;omega) (by omega) ?_;intro v9 w9 hown9 hg9 hbb9;obtain⟨A9,c9,rfl,-,-,-,-⟩:=hown9.shape' (n:=n7+8) (by rw[QO,HLx.1,hl8]))
       obtain⟨X9,hX9⟩:∃X9,X9=X3++le8 (QP 64 l):=⟨_,rfl⟩;rw[←hX9]at hown9;obtain⟨N9,hN9⟩:∃N9,N9=n7+8:=⟨_,rfl⟩;rw[←hN9]at hown9 ⊢;have hl9:X9.length=N9:=by rw[hX9,QO,HLx.1,hl8,hN9]
       have hN9b:N9≤2500008:=by omega
       have HO9:=qe hown9;have HB9:=qe (show Below wf.heap.size wf w9 from hbb9 _ _ (QI _) HB8.1);have hz9:=HB9.1.size;have HL9:=qe hl9;obtain⟨Z,hZ⟩:∃Z,Z=(zN key nonce).map b8:=⟨_,rfl⟩;have hZl:Z.length=32:=by rw[hZ,QN,qaw]
       have HR9:=qe (show∀W',Below wf.heap.size wf W'→W'.rangeAt w3.heap.size 0 Z from fun W' hb=>by
        rw[hZ];exact(HKf.1.below hb (by omega)).whole)
       have hk9:=HR9.1 _ HB9.1.drew;have hu:=underlying92;have hi32:(prog.info? 92).map (·.size)=some Z.length:=by rw[hZl];exact qka
       obtain⟨Y,hY⟩:∃Y,Y=O.map b8:=⟨_,rfl⟩;have hYl:Y.length=16:=by rw[hY,QN,HML.1]
       have hYi:(prog.info? 147).map (·.size)=some Y.length:=by rw[hYl];exact jM
       have hYo:∀v∈Y,v.oneCell'=true:=by rw[hY];intro v hv;obtain⟨u,-,rfl⟩:=QW.1 hv;exact qH u
       have htx:X9++le8 (QP 64 m)=kq ctx mixed:=by
        unfold kq;rw[hX9,HX3.1,HX2.1,HX.1,HK0.1,HK2.1,HL.1,HM.1];simp[Jb]
       have HMk:=qe (show∀(W:World) (A':Option Addr) (c':Nat),Rd b8 W W.heap.size A' (X9++le8 (QP 64 m))→N9+8≤c'→Calls prog 104 #[.agg Z.toArray,.slice A' (N9+8) c'] W fun e w'=>e= .returned (.agg Y.toArray)∧Below W.heap.size W w' from fun W A' c' hr hc=>by
        have h:=qhY W (zN key nonce) (qaw _ _) W.heap.size (N9+8) c' A' _ hr (QI _) (by rw[QO,hl9,za]) hc (by omega);rw[←hZ,htx]at h;refine h.mono ?_;rintro e w' ⟨rfl,hb⟩;refine⟨?_,hb⟩;rw[hY,HOe.1];exact(Eq.refl (Ending.returned (.agg ((yB (zN key nonce) (kq ctx mixed)).map b8).toArray))))
       have HE:=qe (show∀W:World,Calls prog 103 #[.int .i64 (m:Int)] W fun e w'=>∃v,e= .returned v∧Own b8 w' W.heap.size 5 v (le8 (QP 64 m))∧Below W.heap.size W w' from fun W=>qfe m (by omega) W);have HY:=qe hY;have HYl:=qe hYl;have HOf9:=qe (show∀W',Below wf.heap.size wf W'→W'.there (w.heap.size+1) 0 Y.length from fun W' hb=>Arr.there (HOf.1.below hb (by omega)) (by rw[hYl];simp))
       have HSt:=qe (show∀W',Below wf.heap.size wf W'→(W'.setCells (w.heap.size+1) 0 Y).rangeAt w3.heap.size 0 Z∧Arr b8 (W'.setCells (w.heap.size+1) 0 Y) (w.heap.size+1) 147 O∧W'.grownBy (W'.setCells (w.heap.size+1) 0 Y) (some (w.heap.size+1))from fun W' hb=>by
        obtain⟨h1,h2⟩:=zA (f:=b8) O [] (QL 16 0#8) W' (by rw[HML.1];rfl) (HOf.1.below hb (by omega));rw[←hY]at h1 h2;refine⟨?_,h1,h2⟩;rw[hZ];exact((HKf.1.below hb (by omega)).grown h2 (by intro e;have:=Ju e;omega)).whole)
       clear hown9 hg9 hbb9 hX9 hN9 hl9 hZ hY hYl hZl htx HO8 HB8 HR8 HX3 HX2 HX HK0 HK2 HFm hl8;go_region_held3 (fun w'=>w'.rangeAt w3.heap.size 0 Z)
        (first
         |exact(HSt.1 _ HX12.1).1
         |exact HR9.1 _ HX12.1
         |exact HR9.1 _ HX11.1
         |exact HR9.1 _ HX10.1
         |go_keep)
        (first
         |(go_simp;go_at_call 103;refine(HE.1 _).mono ?_;rintro e w10 ⟨v10,rfl,ho10,hb10⟩;obtain⟨A10,c10,rfl,hr10,-,-,-⟩:=ho10.shape' (za _);have HW10:=qe (show Below w9.heap.size w9 w10 from qV (by(repeat(first|exact QK _ _|refine qn1 ?_|refine qn2 ?_))) hb10);have HX10:=qe (HB9.1.trans (HW10.1.mono hz9));have hz10:=HX10.1.size;have HR10:=qe hr10;have HO10:=qe (HO9.1.below HW10.1 (QI _));clear ho10 hb10 hr10)
         |(refine jc rfl (.tmp 55) (.tmp 58) 28 rfl qH wf.heap.size 5 i0 _ 1 underlying28 hi0 hz0 hz1 hz2 rfl _ X9 rfl HO10.1 w10.heap.size A10 8 c10 (le8 (QP 64 m)) rfl (za _).symm HR10.1 (by have:=HL9.1;simp only[maxLen,za];omega) (by have:=HL9.1;simp only[za];omega) (by omega) ?_;intro v11 w11 hown11 hg11 hbb11;obtain⟨A11,c11,rfl,hr11,-,hc11,-⟩:=hown11.shape' (n:=N9+8) (by rw[QO,HL9.1,za]);have HX11:=qe (hbb11 _ _ (QI _) HX10.1);have HR11:=qe hr11;clear hown11 hg11 hbb11 hr11)
         |(go_simp;go_at_call 104;refine(HMk.1 w11 A11 c11 HR11.1 hc11).mono ?_;rintro e w12 ⟨rfl,hb12⟩;have HX12:=qe (HX11.1.trans (hb12.mono HX11.1.size));have hth:=HOf9.1 _ HX12.1;clear hb12))
       have HF:=qe (HSt.1 _ HX12.1);have hsf:=HX12.1.size;go_wp2_with fail
       refine bodyPost_ret (v:= .agg (O.map b8).toArray) (qY (g:=w.heap.size+1) rfl _ _ _ _ _ rfl HF.1.2.1 underlying147 rfl (by rw[jM,HML.1])) rfl ?_;refine⟨rfl,?_⟩;have hb12:=HBf.1.trans (HX12.1.mono HBf.1.size);exact hb12.grown HF.1.2.2 hb12.size (fun k e=>by cases e;omega)
      ·have h16i:¬((n7:Int) % 16=0):=by omega
       go_wp2_with (at_builtin;refine qh rfl (.tmp 46) (.tmp 47) 28 rfl qH wf.heap.size 5 i0 _ 1 underlying28 hi0 hz0 hz1 hz2 rfl _ _ rfl (HO.1.alloc _) (wr.heap.size+1) _ 1 1 [0#8] rfl rfl (Rd.new b8 wr 5 [0#8]) (by have:=HLx.1;simp only[maxLen,Jr,JE];omega) (by have:=HLx.1;simp only[Jr,JE];omega) (by(first|omega|(simp;done)|(simp;omega)|(simp at*;omega))) ?_;intro v6 w6 hown6 hg6 hbb6;obtain⟨A6,c6,rfl,-,-,-,-⟩:=hown6.shape' (n:=n7+1) (by rw[QO,HLx.1];rfl))
       refine⟨⟨k2+1,n7+1,A6,c6,rfl,by rw[HN7.1];omega,by have:=qaR h16;have:=HK7.1;omega,by rw[List.replicate_succ',←Jb];exact hown6,hbb6 _ _ (QI _) (HB.1.alloc (by omega) _)⟩,by have:=qaR h16;simp only[qj9];omega⟩
    ·have h16i:¬((n5:Int) % 16=0):=by omega
     go_wp2_with (at_builtin;refine qh rfl (.tmp 36) (.tmp 37) 28 rfl qH wf.heap.size 5 i0 _ 1 underlying28 hi0 hz0 hz1 hz2 rfl _ _ rfl (HO.1.alloc _) (wr.heap.size+1) _ 1 1 [0#8] rfl rfl (Rd.new b8 wr 5 [0#8]) (by have:=HLx.1;simp only[maxLen,Jr,JE];omega) (by have:=HLx.1;simp only[Jr,JE];omega) (by(first|omega|(simp;done)|(simp;omega)|(simp at*;omega))) ?_;intro v6 w6 hown6 hg6 hbb6;obtain⟨A6,c6,rfl,-,-,-,-⟩:=hown6.shape' (n:=n5+1) (by rw[QO,HLx.1];rfl))
     refine⟨⟨k+1,n5+1,A6,c6,rfl,by rw[HN5.1];omega,by have:=qaR h16;have:=HK5.1;omega,by rw[List.replicate_succ',←Jb];exact hown6,hbb6 _ _ (QI _) (HB.1.alloc (by omega) _)⟩,by have:=qaR h16;simp only[qj9];omega⟩
theorem qhZ(w:World)(key:qf)(hk:key.length=32)(A C T:Option Addr)(n c l cc m d Bn Bc Bm:Nat)(nonce ctx text:qf)
 (hrn:Rd b8 w Bn A nonce)(hBn:Bn≤w.heap.size)(hn:nonce.length=n)(hnc:n≤c)
 (hrc:Rd b8 w Bc C ctx)(hBc:Bc≤w.heap.size)(hl:ctx.length=l)
 (hrm:Rd b8 w Bm T text)(hBm:Bm≤w.heap.size)(hm:text.length=m)(hmd:m≤d)(hmx:m≤maxLen):
 Calls prog 45 #[jL b8 key,.slice A n c,.slice C l cc,.slice T m d] w fun e w'=>∃v,e= .returned (.tuple #[v,.int .i64 (jV key nonce ctx text:Int)])∧Own b8 w' w.heap.size 5 v (j3 key nonce ctx text)∧Below w.heap.size w w':=by
 have HK:=qe hk;have HN:=qe hn;have HL:=qe hl;have HM:=qe hm;have HRn:=qe (hrn.more hBn);have HRc:=qe (hrc.more hBc);have HRm:=qe (hrm.more hBm);have hob:jV key nonce ctx text=if n≠12∨1048592<l∨1048592<m then 1 else if m<16 then 2 else if uc key nonce ctx (text.take (m-16))=text.drop (m-16)then 0 else 2:=by unfold jV;rw[hn,hl,hm]
 have HOv:=qe (show j3 key nonce ctx text=if jV key nonce ctx text=0 then zY key nonce 1 (text.take (m-16))else[] by unfold j3;rw[hm]);clear hk hn hl hm hrn hrc hrm hBn hBc hBm;rw[qn];have HK1:=qe (Arr.new b8 w 92 key);have HB1:=qe (show Below w.heap.size w (w.alloc (.cells (key.map b8).toArray 92))from(QK _ w).alloc (QI _) _);simp only[maxLen]at hmx;by_cases h1:n=12
 ·subst h1
  by_cases h2:l≤1048592
  ·by_cases h3:m≤1048592
   ·have h2i:¬((l:Int)>1048592):=by omega
    have h3i:¬((m:Int)>1048592):=by omega
    rw[if_neg (by omega)]at hob;by_cases h4:m<16
    ·rw[if_pos h4]at hob
     have hov:j3 key nonce ctx text=[]:=by rw[HOv.1,hob];exact if_neg (by decide)
     rw[hob,hov];have h4i:(m:Int)-16<0:=by omega
     clear hob hov;go_enter func45,ntmps45
     go_wp2_with fail
     go_ret2;exact⟨_,rfl,Own.nil_ _ _ _ _,HB1.1⟩
    ·rw[if_neg h4]at hob
     obtain⟨k,hkm⟩:∃k,m=k+16:=⟨m-16,by omega⟩;have hmk0:m-16=k:=by omega
     rw[hmk0]at hob HOv;obtain⟨b,off,rfl,hbl,-⟩:=HRm.1.at_ (k:=0) (by rw[HM.1,hkm];omega);obtain⟨t1,ht1⟩:∃t1,text.take k=t1:=⟨_,rfl⟩;obtain⟨t2,ht2⟩:∃t2,text.drop k=t2:=⟨_,rfl⟩;rw[ht1,ht2]at hob;rw[ht1]at HOv;have H1l:=qe (show t1.length=k by rw[←ht1,QV,HM.1,hkm];omega);have H2l:=qe (show t2.length=16 by rw[←ht2,Jf,HM.1,hkm];omega);have H1r:=qe (show Rd b8 w w.heap.size (some ⟨b,off,none⟩) t1 by rw[←ht1];exact HRm.1.take k)
     have H2r:=qe (show Rd b8 w w.heap.size (some ⟨b,off+k,none⟩) t2 by
      have h:=HRm.1.drop k;rw[ht2,Option.map_some]at h;have eA:(Addr.mk b off none).add k=⟨b,off+k,none⟩:=by by_cases h0:k=0<;>simp[Addr.add,h0]
      rwa[eA]at h)
     clear ht1 ht2;have HOb:=qe hob;have hsi:(m:Int)-16=(k:Int):=by omega
     have hmk:m-k=16:=by omega
     have hkm':k≤m:=by omega
     have hkb:k≤1048576:=by omega
     clear hmk0 hkm;have hkd:¬(d=k):=by omega
     have hkd':k≤d:=by omega
     clear hob h4;go_enter func45,ntmps45
     go_wp2_with fail
     have hz1:w.heap.size<(w.alloc (.cells (key.map b8).toArray 92)).heap.size:=by simp
     change Code.wp _ _ _ _ (w.alloc (.cells (key.map b8).toArray 92));generalize w.alloc (.cells (key.map b8).toArray 92)=w1 at HK1 HB1 hz1 ⊢;obtain⟨G,hG⟩:∃G,uc key nonce ctx t1=G:=⟨_,rfl⟩;have HGl:=qe (show G.length=16 by rw[←hG];exact jT _ _ _ _);obtain⟨Y,hY⟩:∃Y,Y=G.map b8:=⟨_,rfl⟩;have hYl:Y.length=16:=by rw[hY,QN,HGl.1]
     have hYi:(prog.info? 147).map (·.size)=some Y.length:=by rw[hYl];exact jM
     have hYo:∀v∈Y,v.oneCell'=true:=by rw[hY];intro v hv;obtain⟨u,-,rfl⟩:=QW.1 hv;exact qH u
     have HY:=qe hY;have HYl:=qe hYl;clear hYl;obtain⟨Z,hZ⟩:∃Z,Z=key.map b8:=⟨_,rfl⟩;have hZl:Z.length=32:=by rw[hZ,QN,HK.1]
     have HR1:=qe (show∀W',Below w1.heap.size w1 W'→W'.rangeAt w.heap.size 0 Z from fun W' hb=>by
      rw[hZ];exact(HK1.1.below hb hz1).whole)
     have hk1:=HR1.1 _ (QK _ w1).drew;have hu:=underlying92;have hi32:(prog.info? 92).map (·.size)=some Z.length:=by rw[hZl];exact kJ
     have HMk:=qe (show∀W,Below w1.heap.size w1 W→Calls prog 79 #[.agg Z.toArray,.slice A 12 c,.slice C l cc,.slice (some ⟨b,off,none⟩) k d] W fun e w'=>e= .returned (.agg Y.toArray)∧Below W.heap.size W w' from fun W hb=>by
      have hbw:=HB1.1.trans (hb.mono HB1.1.size);have h:=qgk W key HK.1 A C (some ⟨b,off,none⟩) 12 c l cc k d w.heap.size w.heap.size w.heap.size nonce ctx t1 (HRn.1.below hbw) hbw.size HN.1 rfl hnc (HRc.1.below hbw) hbw.size HL.1 (by omega) (H1r.1.below hbw) hbw.size H1l.1 (by omega);rw[qn,←hZ,hG,←hY]at h;exact h)
     have hml:=ka key nonce t1 HN.1 (by rw[H1l.1];omega);rw[H1l.1]at hml;have HMx:=qe (show∀W,Below w1.heap.size w1 W→Calls prog 80 #[.agg Z.toArray,.slice A 12 c,.int .i64 1,.slice (some ⟨b,off,none⟩) k d] W fun e w'=>∃v,e= .returned (.tuple #[v,.int .i64 0])∧Own b8 w' W.heap.size 5 v (zY key nonce 1 t1)∧Below W.heap.size W w' from fun W hb=>by
      have hbw:=HB1.1.trans (hb.mono HB1.1.size);have h:=qiW key A 12 c w.heap.size nonce 1 (some ⟨b,off,none⟩) k d w.heap.size t1 W HK.1 (HRn.1.below hbw) hbw.size HN.1 hnc (H1r.1.below hbw) hbw.size H1l.1 (by omega);rw[hml.1,qn,←hZ]at h;exact h)
     have HGe:=qe hG;have HXl:=qe hml.2;clear hG hZ hZl hml hY;go_region_held3 (fun w'=>w'.rangeAt w.heap.size 0 Z)
      (first
       |exact HR1.1 _ (by(repeat(first|exact HX2.1|(refine qG ?_ (by omega))|exact QK _ _|refine qB ?_|refine qD ?_)))
       |go_keep)
      ((go_simp;go_at_call 79;refine(HMk.1 _ (by(repeat(first|exact QK _ _|refine qB ?_|refine qD ?_)))).mono ?_;rintro e w2 ⟨rfl,hb2⟩;have HX2:=qe (show Below w1.heap.size w1 w2 from qV (by(repeat(first|exact QK _ _|refine qB ?_|refine qD ?_))) hb2);have hs2:=HX2.1.size;(first|(refine(have HZ:vM (PZ w2 w1.heap.size):=qe (zZ hb2 ?_);?_);(focus(simp only[yf,yV,yW,QQ]<;>fail)))|skip);(try have hth:=kr HZ.1 HYl.1);have hth9:(w2.alloc (.cells #[.int .u8 0,.int .u8 0,.int .u8 0,.int .u8 0,.int .u8 0,.int .u8 0,.int .u8 0,.int .u8 0,.int .u8 0,.int .u8 0,.int .u8 0,.int .u8 0,.int .u8 0,.int .u8 0,.int .u8 0,.int .u8 0] 147)).there w2.heap.size 0 Y.length:=kr (qf9 rfl rfl) HYl.1;clear hb2))
     all_goals
      first
      |(have HA3:=qe (uk HZ.1 HY.1 HGl.1);have HX3:=qe (show Below w1.heap.size w1 (w2.setCells w1.heap.size 0 Y)from qG HX2.1 (QI _));generalize w2.setCells w1.heap.size 0 Y=w3 at HA3 HX3 ⊢;obtain⟨gm,hgm⟩:∃gm,gm=w1.heap.size:=⟨_,rfl⟩;rw[←hgm]at HA3 ⊢)
      |(have HA3:=qe (uk (qf9 rfl rfl:PZ (w2.alloc (.cells #[.int .u8 0,.int .u8 0,.int .u8 0,.int .u8 0,.int .u8 0,.int .u8 0,.int .u8 0,.int .u8 0,.int .u8 0,.int .u8 0,.int .u8 0,.int .u8 0,.int .u8 0,.int .u8 0,.int .u8 0,.int .u8 0] 147)) w2.heap.size) HY.1 HGl.1);have HX3:=qe (show Below w1.heap.size w1 ((w2.alloc (.cells #[.int .u8 0,.int .u8 0,.int .u8 0,.int .u8 0,.int .u8 0,.int .u8 0,.int .u8 0,.int .u8 0,.int .u8 0,.int .u8 0,.int .u8 0,.int .u8 0,.int .u8 0,.int .u8 0,.int .u8 0,.int .u8 0] 147)).setCells w2.heap.size 0 Y)from qG (qB HX2.1) hs2);generalize(w2.alloc (.cells #[.int .u8 0,.int .u8 0,.int .u8 0,.int .u8 0,.int .u8 0,.int .u8 0,.int .u8 0,.int .u8 0,.int .u8 0,.int .u8 0,.int .u8 0,.int .u8 0,.int .u8 0,.int .u8 0,.int .u8 0,.int .u8 0] 147)).setCells w2.heap.size 0 Y=w3 at HA3 HX3 ⊢;obtain⟨gm,hgm⟩:∃gm,gm=w2.heap.size:=⟨_,rfl⟩;rw[←hgm]at HA3 ⊢)
      have hgmz:w1.heap.size≤gm:=by omega
      clear hgm;have HB3:=qe (HB1.1.trans (HX3.1.mono HB1.1.size));have hr1:∀q,(convert 28 9 (.slice (some ⟨gm,0,none⟩) 16 16)).run prog (w3.drewN q)= .ok (.string (str G)) (w3.drewN q):=fun q=>by
       have h:=qbU (P:=prog) (xs:=G) (((HA3.1.rd 0):Rd b8 w3 _ _ G).drewN q) 28 9 5 16 underlying28 underlying5 underlying9;rwa[HGl.1]at h
      have hr2:∀q,(convert 28 9 (.slice (some ⟨b,off+k,none⟩) 16 (d-k))).run prog (w3.drewN q)= .ok (.string (str t2)) (w3.drewN q):=fun q=>by
       have h:=qbU (P:=prog) ((H2r.1.below HB3.1).drewN q) 28 9 5 (d-k) underlying28 underlying5 underlying9;rwa[H2l.1]at h
      clear hth9 hk1 HMk HX2 hs2;try clear hth HZ
      have hs3:=HX3.1.size;by_cases heq:G=t2
      ·have hsb:((str G).toList==(str t2).toList)=true:=by rw[qdK];simp[heq]
       have hob:=HOb.1;rw[HGe.1,if_pos heq]at hob;have HOb2:=qe hob;clear hob heq;go_wp2_with fail
       go_quiet (fail)
       have HX4:=qe (je HX3.1 nq);have HB4:=qe (je HB3.1 nq);clear HX3 HB3 HA3 hr1 hr2 hsb;generalize w3.drewN nq=w4 at HX4 HB4 ⊢;go_wp2_with fail
       have hk4:=HR1.1 _ HX4.1.drew;go_region_held3 (fun w'=>w'.rangeAt w.heap.size 0 Z)
        (first
         |exact HR1.1 _ (HX4.1.trans (HX5.1.mono HX4.1.size))
         |go_keep)
        ((go_simp;go_at_call 80;refine(HMx.1 _ HX4.1.drew).mono ?_;rintro e w5 ⟨v5,rfl,ho5,hb5⟩;have HX5:=qe (show Below w4.heap.size w4 w5 from qV (by(repeat(first|exact QK _ _|refine qB ?_|refine qD ?_))) hb5);have HO5:=qe ho5;clear ho5 hb5))
       go_wp2_with fail
       go_ret2;rw[HOb2.1,show j3 key nonce ctx text=zY key nonce 1 t1 by rw[HOv.1,HOb2.1];exact if_pos rfl];exact⟨_,rfl,HO5.1.less HB4.1.size,HB4.1.trans (HX5.1.mono HB4.1.size)⟩
      ·have hsb:((str G).toList==(str t2).toList)=false:=by rw[qdK];simp[heq]
       have hob:=HOb.1;rw[HGe.1,if_neg heq]at hob;have HOb2:=qe hob;clear hob heq;go_wp2_with fail
       go_quiet (fail)
       go_wp2_with fail
       go_ret2;rw[HOb2.1,show j3 key nonce ctx text=[] by rw[HOv.1,HOb2.1];exact if_neg (by decide)];exact⟨_,rfl,Own.nil_ _ _ _ _,je HB3.1 nq⟩
   ·have h2i:¬((l:Int)>1048592):=by omega
    have h3i:(m:Int)>1048592:=by omega
    rw[if_pos (by omega)]at hob;have hov:j3 key nonce ctx text=[]:=by rw[HOv.1,hob];exact if_neg (by decide)
    rw[hob,hov];clear hob hov;go_enter func45,ntmps45
    go_wp2_with fail
    go_ret2;exact⟨_,rfl,Own.nil_ _ _ _ _,HB1.1⟩
  ·have h2i:(l:Int)>1048592:=by omega
   rw[if_pos (by omega)]at hob;have hov:j3 key nonce ctx text=[]:=by rw[HOv.1,hob];exact if_neg (by decide)
   rw[hob,hov];clear hob hov;go_enter func45,ntmps45
   go_wp2_with fail
   go_ret2;exact⟨_,rfl,Own.nil_ _ _ _ _,HB1.1⟩
 ·have h1i:¬((n:Int)=12):=by omega
  rw[if_pos (by omega)]at hob;have hov:j3 key nonce ctx text=[]:=by rw[HOv.1,hob];exact if_neg (by decide)
  rw[hob,hov];clear hob hov;go_enter func45,ntmps45
  go_wp2_with fail
  go_ret2;exact⟨_,rfl,Own.nil_ _ _ _ _,HB1.1⟩
end
end Go.Proofs.YtelgjaiknaalkaaGreatDoor
