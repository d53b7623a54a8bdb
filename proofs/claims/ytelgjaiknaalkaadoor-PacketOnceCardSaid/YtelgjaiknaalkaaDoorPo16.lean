/- Lemmas, joined and made smaller by a program. -/
import Derived.Test.YtelgjaiknaalkaaDoorPo15
open Go.Lib renaming hid → qq
set_option linter.unusedVariables false
set_option linter.unusedSimpArgs false
namespace Go.Proofs.YtelgjaiknaalkaaDoor
open Go.RowKit
structure LP where
 l:LineM
 hp:List (OnceM×Nat)
 gm:Nat
 t:Bool
 h:Int
 s:BitVec 64
 M:List Int
def LP.cells(x:LP):List Value:=lineC x.t x.h x.s x.l.link x.l.place (.map (some x.gm))
structure LP.OK(x:LP):Prop where
 lok:LOK x.l
 marks:Marks x.M x.t x.h x.s x.l
 fst:x.hp.map Prod.fst=x.l.held
 nd:(x.hp.map Prod.snd).Nodup
theorem LP.cells_len(x:LP)(h:x.OK):x.cells.length=37:=lineC_len _ _ _ _ _ _ h.lok.len
theorem takeL_low{l:LineM}(k:LOK l){n:Int}(hn:n<l.place)(h0:takeE l n=0):takeL l n=⟨l.link,l.place,l.held.filter (fun o=>!decide (o.no=n)),l.asked++ [n],l.low⟩:=by
 have e0:(n+1-l.place).toNat=0:=by omega
 have hh:hiA (l.asked++ [n]) l.low=l.place-1:=by
  rw[hiA_snoc]
  have:=k.hi
  unfold hiM at this
  rw[this,if_neg (by omega)]
 unfold takeL heldTo
 rw[e0,if_neg (by omega),hh]
 simp only[linkAt,runL,List.append_nil]
 congr 1
 refine List.filter_congr (fun o ho=>?_)
 have:=(k.held o ho).2.2.2.1
 unfold keepO
 have h2:decide (l.place-1-64≤o.no)=true:=by simp;omega
 rw[h2,Bool.and_true]
 by_cases h3:o.no=n
 ·simp[h3]
 ·simp[h3]
theorem takeO_low{l:LineM}(k:LOK l){n:Int}(hn:n<l.place)(h0:takeE l n=0){o:OnceM}(ho:o∈l.held)(hno:o.no=n):takeO l n=o:=by
 have e0:(n+1-l.place).toNat=0:=by omega
 unfold takeO heldTo
 rw[if_pos h0,e0]
 simp only[runL,List.append_nil]
 rw[←hno]
 exact pick_mem k.rise ho
theorem takeL_run{l:LineM}(kk:LOK l){n:Int}{k:Nat}(hn:n=l.place+(k:Int))(h0:takeE l n=0):
 takeL l n=⟨linkAt l.link (k+1),n+1,(l.held++runL l.link l.place k).filter (fun o=>!decide (o.no<n-64)),l.asked++ [n],l.low⟩:=by
 have e0:(n+1-l.place).toNat=k+1:=by omega
 have hh:hiA (l.asked++ [n]) l.low=n:=by
  rw[hiA_snoc]
  have:=kk.hi
  unfold hiM at this
  rw[this,if_pos (by omega)]
 unfold takeL heldTo
 rw[e0,if_pos (by omega),hh]
 congr 1
 rw[show runL l.link l.place (k+1)=runL l.link l.place k++ [ofL (linkAt l.link k) (l.place+(k:Int))]from rfl,←List.append_assoc,List.filter_append,List.filter_cons,if_neg (by unfold keepO;rw[ofL_no];simp;omega),List.filter_nil,List.append_nil]
 refine List.filter_congr (fun o ho=>?_)
 have hlt:o.no<n:=by
  rcases List.mem_append.1 ho with h1|h1
  ·have:=(kk.held o h1).2.1;omega
  ·obtain⟨j,hj,rfl⟩:=(mem_runL _ _ _ _).1 h1
   rw[ofL_no];omega
 unfold keepO
 have h2:(o.no==n)=false:=by simp;omega
 rw[h2]
 by_cases h3:o.no<n-64
 ·simp[h3]
 ·simp[h3];omega
theorem takeO_run{l:LineM}{n:Int}{k:Nat}(hn:n=l.place+(k:Int))(h0:takeE l n=0):takeO l n=ofL (linkAt l.link k) n:=by
 have e0:(n+1-l.place).toNat=k+1:=by omega
 unfold takeO heldTo
 rw[if_pos h0,e0,show runL l.link l.place (k+1)=runL l.link l.place k++ [ofL (linkAt l.link k) (l.place+(k:Int))]from rfl,←List.append_assoc,pick_app,ofL_no,if_pos hn.symm,←hn]
theorem take_any(w:World)(g:Nat)(x:LP)(hx:x.OK)(hB:Blk w g 77 x.cells)(hH:HeldAt w x.gm x.hp)(n:Int)(K:Nat)(hK:K≤g∧K≤x.gm∧K≤w.heap.size):
 Calls Tryd.prog 36 #[.pointer (some ⟨g,0,none⟩),.int .i64 n] w fun e w'=>
  (takeE x.l n≠0→e= .returned (.tuple #[.agg zeroOnce.toArray,errV (takeE x.l n)]))∧
  (takeE x.l n=0→∃b y,e= .returned (.tuple #[.agg (onceC n (takeO x.l n).key (nonceS b)).toArray,.nilIface])∧Arr b8 w' b 5 ((takeO x.l n).key++(takeO x.l n).nonce)∧LP.gm y=x.gm∧y.l=takeL x.l n∧y.OK∧
   Blk w' g 77 y.cells∧HeldAt w' y.gm y.hp∧(b::y.hp.map Prod.snd).Nodup∧∀z∈b::y.hp.map Prod.snd,z∈x.hp.map Prod.snd∨w.heap.size≤z)∧Below K w w':=by
 obtain⟨hok,hM,hf,hnd⟩:=hx
 by_cases hc:winCheck x.t x.h x.s n=0
 ·by_cases hin:∃p∈x.hp,p.1.no=n
  ·obtain⟨⟨o,b⟩,hp',hno⟩:=hin
   have hno':o.no=n:=hno
   obtain⟨hp1,hp2,he⟩:=List.append_of_mem hp'
   have hoh:o∈x.l.held:=by
    show o∈x.l.held
    rw[←hf];exact List.mem_map.2 ⟨(o,b),hp',rfl⟩
   have hE:=hM.found hok hc hoh hno'
   have hlow:n<x.l.place:=by rw[←hno'];exact(hok.held o hoh).2.1
   have hL:=takeL_low hok hlow hE
   have hO:=takeO_low hok hlow hE hoh hno'
   have hL0:=takeL_ok hok hE
   rw[he]at hH hf hnd
   refine(take_found w g x.gm hp1 hp2 o b x.l x.M x.t x.h x.s n hB hH hf hok hM hc hno' K hK).mono ?_
   rintro e w' ⟨rfl,hA,hB',hH',hb⟩
   have hMk:=hM.take hok hc hE
   refine⟨fun h=>absurd hE h,fun _=>⟨b,⟨takeL x.l n,hp1++hp2,x.gm,_,_,_,_⟩,?_,?_,rfl,rfl,⟨hL0,hMk,?_,?_⟩,?_,hH',?_,?_⟩,hb⟩
   ·rw[hO,hno']
   ·rw[hO];exact hA
   ·rw[hL]
    show(hp1++hp2).map Prod.fst=x.l.held.filter (fun o=>!decide (o.no=n))
    have hr:=hok.rise
    rw[←hf]at hr ⊢
    simp only[List.map_append,List.map_cons]at hr ⊢
    obtain⟨-,hr2,hr3⟩:=List.pairwise_append.1 hr
    obtain⟨hr4,-⟩:=List.pairwise_cons.1 hr2
    rw[List.filter_append,List.filter_cons,if_neg (by simp[hno'])]
    congr 1
    ·exact(List.filter_eq_self.2 (fun a ha=>by
      have h9:a.no<o.no:=hr3 a ha o (by simp)
      simp;omega)).symm
    ·exact(List.filter_eq_self.2 (fun a ha=>by
      have h9:o.no<a.no:=hr4 a ha
      simp;omega)).symm
   ·exact hnd.sublist (by rw[List.map_append,List.map_append,List.map_cons];exact List.Sublist.append (List.Sublist.refl _) (List.sublist_cons_self _ _))
   ·show Blk w' g 77 (lineC _ _ _ (takeL x.l n).link (takeL x.l n).place _)
    rw[hL];exact hB'
   ·rw[List.map_append,List.map_cons]at hnd
    show(b::(hp1++hp2).map Prod.snd).Nodup
    rw[List.map_append]
    exact(List.perm_middle.nodup_iff).1 hnd
   ·intro z hz
    refine .inl ?_
    rw[he,List.map_append,List.map_cons]
    have hz':z∈b::(hp1++hp2).map Prod.snd:=hz
    rw[List.map_append]at hz'
    simp only[List.mem_cons,List.mem_append]at hz' ⊢
    rcases hz' with h|h|h
    ·exact .inr (.inl h)
    ·exact .inl h
    ·exact .inr (.inr h)
  ·have hno:∀p∈x.hp,p.1.no≠n:=fun p hp' e=>hin ⟨p,hp',e⟩
   by_cases hlo:n<x.l.place
   ·have hE:=hM.passed hok hc (fun o ho=>by rw[←hf]at ho;obtain⟨p,hp',rfl⟩:=List.mem_map.1 ho;exact hno p hp') hlo
    refine(take_low w g x.gm x.hp x.l x.M x.t x.h x.s n hB hH hf hok hM hc hno hlo).mono ?_
    rintro e w' ⟨rfl,hb⟩
    exact⟨fun _=>rfl,fun h0=>absurd h0 (by rw[hE];decide),hb.mono hK.2.2⟩
   ·by_cases hfar:256<n-x.l.place
    ·have hE:=hM.beyond hok hc (by omega:x.l.place≤n)
     rw[if_pos hfar]at hE
     refine(take_far w g x.gm x.hp x.l x.M x.t x.h x.s n hB hH hf hok hM hc hno (by omega) hfar).mono ?_
     rintro e w' ⟨rfl,hb⟩
     exact⟨fun _=>rfl,fun h0=>absurd h0 (by rw[hE];decide),hb.mono hK.2.2⟩
    ·have hE:=hM.beyond hok hc (by omega:x.l.place≤n)
     rw[if_neg hfar]at hE
     obtain⟨k,hk⟩:∃k:Nat,n=x.l.place+(k:Int):=⟨(n-x.l.place).toNat,by omega⟩
     have hL:=takeL_run hok hk hE
     have hO:=takeO_run hk hE
     have hL0:=takeL_ok hok hE
     have hMk:=hM.take hok hc hE
     refine(take_runs w g x.gm x.hp x.l x.M x.t x.h x.s n k hB hH hf hnd hok hM hc hno hk (by omega) K hK).mono ?_
     rintro e w' ⟨b,hp',rfl,hA,hB',hH',hf',hn',hz',hb⟩
     refine⟨fun h=>absurd hE h,fun _=>⟨b,⟨takeL x.l n,hp',x.gm,_,_,_,_⟩,?_,?_,rfl,rfl,⟨hL0,hMk,?_,?_⟩,?_,hH',hn',hz'⟩,hb⟩
     ·rw[hO,ofL_keyE]
     ·rw[hO,ofL_keyE,ofL_nonceE,List.take_append_drop];exact hA
     ·rw[hL];exact hf'
     ·exact(List.nodup_cons.1 hn').2
     ·show Blk w' g 77 (lineC _ _ _ (takeL x.l n).link (takeL x.l n).place _)
      rw[hL];dsimp only;exact hB'
 ·refine(take_refused w g x.gm x.hp x.l x.M x.t x.h x.s n hB hH hok hM hc).mono ?_
  rintro e w' ⟨rfl,hb⟩
  exact⟨fun _=>rfl,fun h0=>absurd (h0.symm.trans (hM.refuse hok hc)).symm hc,hb.mono hK.2.2⟩
structure ChAt(w:World)(gC gl:Nat)(xs:List LP):Prop where
 top:Boxed w gC 68 (.slice (some ⟨gl,0,none⟩) xs.length xs.length)
 lines:Blk w gl 77 (xs.flatMap LP.cells)
 ok:∀x∈xs,x.OK
 held:∀x∈xs,HeldAt w x.gm x.hp
 gms:(xs.map LP.gm).Nodup
 blks:(xs.flatMap fun x=>x.hp.map Prod.snd).Nodup
theorem flat_len(xs:List LP)(h:∀x∈xs,x.OK):(xs.flatMap LP.cells).length=37*xs.length:=by
 induction xs with
 |nil=>rfl
 |cons x r ih=>
  rw[List.flatMap_cons,List.length_append,x.cells_len (h x (by simp)),ih (fun y hy=>h y (by simp[hy])),List.length_cons];omega
theorem flat_split(xs:List LP)(h:∀x∈xs,x.OK)(i:Nat)(hi:i<xs.length):xs.flatMap LP.cells=(xs.take i).flatMap LP.cells++(xs[i].cells++(xs.drop (i+1)).flatMap LP.cells)∧((xs.take i).flatMap LP.cells).length=37*i:=by
 refine⟨?_,?_⟩
 ·rw[←List.flatMap_cons,←List.flatMap_append,←List.drop_eq_getElem_cons hi,List.take_append_drop]
 ·rw[flat_len _ (fun x hx=>h x (List.mem_of_mem_take hx)),List.length_take,Nat.min_eq_left (by omega)]
theorem ChAt.range{w:World}{gC gl:Nat}{xs:List LP}(c:ChAt w gC gl xs)(i:Nat)(hi:i<xs.length):w.rangeAt gl (i*37) xs[i].cells:=by
 rw[Nat.mul_comm]
 obtain⟨h1,h2⟩:=flat_split xs c.ok i hi
 have h3:=(c.lines.cast h1).range (37*i) 37
 have e:(((xs.take i).flatMap LP.cells++(xs[i].cells++(xs.drop (i+1)).flatMap LP.cells)).drop (37*i)).take 37=xs[i].cells:=by
  rw[←h2,List.drop_left,List.take_append_of_le_length (by rw[xs[i].cells_len (c.ok _ (List.getElem_mem hi))];exact Nat.le_refl _),List.take_of_length_le (by rw[xs[i].cells_len (c.ok _ (List.getElem_mem hi))];exact Nat.le_refl _)]
 rwa[e]at h3
set_option maxRecDepth 100000 in
theorem line_any(w:World)(gC gl:Nat)(xs:List LP)(hc:ChAt w gC gl xs)(i:Nat)(hi:i<xs.length)(hm:xs.length≤1000):
 Calls Tryd.prog 26 #[.pointer (some ⟨gC,0,none⟩),.int .i64 (i:Int)] w fun e w'=>e= .returned (.pointer (some ⟨gl,i*37,none⟩))∧w=w':=by
 have ct:=hc.top.cell
 obtain⟨n,hn⟩:∃n,n=xs.length:=⟨_,rfl⟩
 rw[←hn]at ct hi hm
 have h0:¬((i:Int)<0):=by omega
 have h1:¬((i:Int)≥(n:Int)):=by omega
 have h2:(0:Int)≤(i:Int):=by omega
 have h3:(i:Int)<(n:Int):=by omega
 clear hn hc
 go_enter Tryd.func26,Tryd.ntmps26
 go_wp2_with fail
 go_ret
 exact⟨rfl,rfl⟩
set_option maxRecDepth 100000 in
theorem line_out(w:World)(gC gl:Nat)(xs:List LP)(hc:ChAt w gC gl xs)(j:Int)(hj:j<0∨(xs.length:Int)≤j):
 Calls Tryd.prog 26 #[.pointer (some ⟨gC,0,none⟩),.int .i64 j] w fun e w'=>e= .returned (.pointer none)∧w=w':=by
 have ct:=hc.top.cell
 obtain⟨n,hn⟩:∃n,n=xs.length:=⟨_,rfl⟩
 rw[←hn]at ct hj
 clear hn hc
 by_cases h0:j<0
 ·go_enter Tryd.func26,Tryd.ntmps26
  go_wp2_with fail
  go_ret
  exact⟨rfl,rfl⟩
 ·have h1:j≥(n:Int):=by omega
  go_enter Tryd.func26,Tryd.ntmps26
  go_wp2_with fail
  go_ret
  exact⟨rfl,rfl⟩
set_option maxRecDepth 100000
set_option maxHeartbeats 1000000 in
theorem look_bare(w:World)(C:Value)(j n:Int)(hl:∀w1,Below w.heap.size w w1→Calls Tryd.prog 26 #[C,.int .i64 j] w1 fun e w'=>e= .returned (.pointer none)∧w1=w'):
 Calls Tryd.prog 20 #[C,.int .i64 j,.int .i64 n] w fun e w'=>e= .returned (.tuple #[.agg zeroOnce.toArray,errV 9])∧Below w.heap.size w w':=by
 obtain⟨w1,hw1⟩:∃w1,w1=w.alloc (.cells zeroOnce.toArray 56):=⟨_,rfl⟩
 have HZ1:=qq (show Blk w1 w.heap.size 56 zeroOnce by rw[hw1];exact Blk.new _ _ _)
 have HK1:=qq (show Below w.heap.size w w1 by rw[hw1];exact(Below.refl _ w).alloc (Nat.le_refl _) _)
 have hz1:w1.heap.size=w.heap.size+1:=by rw[hw1];simp
 have HW1:=qq hw1
 clear hw1
 have HL:=qq (hl w1 HK1.out)
 clear hl
 go_enter Tryd.func20,Tryd.ntmps20
 go_upto_region 1 with fail
 have hw1:=HW1.out
 simp only[show zeroOnce.toArray= #[Value.int .i64 0,Value.int .u8 0,Value.int .u8 0,Value.int .u8 0,Value.int .u8 0,Value.int .u8 0,Value.int .u8 0,Value.int .u8 0,Value.int .u8 0,Value.int .u8 0,Value.int .u8 0,Value.int .u8 0,Value.int .u8 0,Value.int .u8 0,Value.int .u8 0,Value.int .u8 0,Value.int .u8 0,Value.int .u8 0,Value.int .u8 0,Value.int .u8 0,Value.int .u8 0,Value.int .u8 0,Value.int .u8 0,Value.int .u8 0,Value.int .u8 0,Value.int .u8 0,Value.int .u8 0,Value.int .u8 0,Value.int .u8 0,Value.int .u8 0,Value.int .u8 0,Value.int .u8 0,Value.int .u8 0,Value.slice none 0 0]from rfl]at hw1
 rw[←hw1]
 clear hw1
 go_wp2_with fail
 refine HL.out.mono ?_
 rintro e w2 ⟨rfl,rfl⟩
 go_upto_region 3 with fail
 refine wp_region_lit ?_
 refine wpList_bparts rfl 56 [] rfl zeroOnce.toArray [] rfl built_zeroOnce ?_
 go_wp2_with (refine wpList_store_piece rfl 56 (.tmp 6) (.tmp 16) rfl w.heap.size 0 rfl zeroOnce rfl 56 _ [] zeroOnce [] HZ1.out (by simp) rfl rfl sizeOnce (onceC_one _ _ _ _ _) ?_;intro w9 hx9 hg9)
 have HX9:=qq (show Blk w9 w.heap.size 56 zeroOnce from hx9.cast (by simp))
 refine bodyPost_ret (v:= .tuple #[.agg zeroOnce.toArray,errV 9]) (results_blk_tmp (g:=w.heap.size) rfl _ _ _ _ _ _ rfl rfl HX9.out Tryd.underlying56 rfl sizeOnce) rfl ?_
 exact⟨rfl,HK1.out.grown hg9 HK1.out.size (fun k e=>by cases e;exact Nat.le_refl _)⟩
end Go.Proofs.YtelgjaiknaalkaaDoor
namespace Go.Proofs.YtelgjaiknaalkaaDoor
open Go.RowKit
set_option maxRecDepth 100000
theorem nodup_put(A B L L':List Nat)(N:Nat)(h:(A++(L++B)).Nodup)(hN:∀z∈A++(L++B),z<N)(h':L'.Nodup)(hz:∀z∈L',z∈L∨N≤z):(A++(L'++B)).Nodup:=by
 obtain⟨a1,a2,a3⟩:=List.nodup_append.1 h
 obtain⟨b1,b2,b3⟩:=List.nodup_append.1 a2
 refine List.nodup_append.2 ⟨a1,List.nodup_append.2 ⟨h',b2,fun x hx y hy e=>?_⟩,fun x hx y hy e=>?_⟩
 ·subst e
  rcases hz x hx with h1|h1
  ·exact b3 x h1 x hy rfl
  ·have:=hN x (by simp[hy]);omega
 ·subst e
  rcases List.mem_append.1 hy with h1|h1
  ·rcases hz x h1 with h2|h2
   ·exact a3 x hx x (by simp[h2]) rfl
   ·have:=hN x (by simp[hx]);omega
  ·exact a3 x hx x (by simp[h1]) rfl
theorem ChAt.blk_lt{w:World}{gC gl:Nat}{xs:List LP}(c:ChAt w gC gl xs):∀z∈xs.flatMap (fun x=>x.hp.map Prod.snd),z<w.heap.size:=by
 intro z hz
 obtain⟨x,hx,hz⟩:=List.mem_flatMap.1 hz
 obtain⟨p,hp,rfl⟩:=List.mem_map.1 hz
 exact((c.held x hx).mem p hp).lt
theorem ChAt.gm_lt{w:World}{gC gl:Nat}{xs:List LP}(c:ChAt w gC gl xs):∀z∈xs.map LP.gm,z<w.heap.size:=by
 intro z hz
 obtain⟨x,hx,rfl⟩:=List.mem_map.1 hz
 exact(c.held x hx).map.lt
theorem ChAt.put{w w':World}{gC gl:Nat}{xs:List LP}(c:ChAt w gC gl xs)(i:Nat)(hi:i<xs.length)(y:LP)(hy:y.OK)(htop:Boxed w' gC 68 (.slice (some ⟨gl,0,none⟩) xs.length xs.length))
 (hlines:Blk w' gl 77 ((xs.take i).flatMap LP.cells++(y.cells++(xs.drop (i+1)).flatMap LP.cells)))(hold:∀x∈xs,HeldAt w' x.gm x.hp)(hheld:HeldAt w' y.gm y.hp)(hgm:w.heap.size≤y.gm)
 (bs:List Nat)(hb:(bs++y.hp.map Prod.snd).Nodup)(hz:∀z∈bs++y.hp.map Prod.snd,z∈xs[i].hp.map Prod.snd∨w.heap.size≤z):
 ChAt w' gC gl (xs.set i y)∧∀b∈bs,b∉ (xs.set i y).flatMap fun x=>x.hp.map Prod.snd:=by
 have es:xs.set i y=xs.take i++y::xs.drop (i+1):=List.set_eq_take_append_cons_drop .. |>.trans (if_pos hi)
 have e0:xs=xs.take i++xs[i]::xs.drop (i+1):=by rw[←List.drop_eq_getElem_cons hi,List.take_append_drop]
 have hm:∀x∈xs.set i y,x=y∨x∈xs:=fun x hx=>(List.mem_or_eq_of_mem_set hx).symm
 have hbl:=c.blks
 have hlt:=c.blk_lt
 rw[e0,List.flatMap_append,List.flatMap_cons]at hbl hlt
 have hall:=nodup_put _ _ _ _ _ hbl hlt hb hz
 rw[List.append_assoc]at hall
 obtain⟨q1,q2,q3⟩:=List.nodup_append.1 hall
 obtain⟨r1,r2,r3⟩:=List.nodup_append.1 q2
 refine⟨⟨?_,?_,?_,?_,?_,?_⟩,?_⟩
 ·rw[List.length_set];exact htop
 ·rw[es,List.flatMap_append,List.flatMap_cons];exact hlines
 ·intro x hx
  rcases hm x hx with rfl|h
  ·exact hy
  ·exact c.ok x h
 ·intro x hx
  rcases hm x hx with rfl|h
  ·exact hheld
  ·exact hold x h
 ·have hg:=c.gms
  have hg2:=c.gm_lt
  rw[e0,List.map_append,List.map_cons]at hg hg2
  rw[es,List.map_append,List.map_cons]
  have:=nodup_put (xs.take i|>.map LP.gm) (xs.drop (i+1)|>.map LP.gm) [xs[i].gm] [y.gm] w.heap.size hg hg2 (by simp) (fun z hz=>by simp at hz;subst hz;exact .inr hgm)
  exact this
 ·rw[es,List.flatMap_append,List.flatMap_cons]
  exact List.nodup_append.2 ⟨q1,r2,fun a ha b hb'=>q3 a ha b (List.mem_append.2 (.inr hb'))⟩
 ·intro b hb' hin
  rw[es,List.flatMap_append,List.flatMap_cons]at hin
  rcases List.mem_append.1 hin with h1|h1
  ·exact q3 b h1 b (List.mem_append.2 (.inl hb')) rfl
  ·exact r3 b hb' b h1 rfl
theorem HeldAt.keep{w w':World}{gm:Nat}{hp:List (OnceM×Nat)}(x:HeldAt w gm hp)(hb:Below w.heap.size w w'):HeldAt w' gm hp:=x.below hb x.map.lt (fun p hp'=>(x.mem p hp').lt)
theorem ChAt.below{w w':World}{gC gl:Nat}{xs:List LP}(c:ChAt w gC gl xs)(hb:Below w.heap.size w w'):ChAt w' gC gl xs:=
 ⟨(hb.block _ c.top.lt).trans c.top,c.lines.below hb c.lines.lt,c.ok,fun x hx=>(c.held x hx).keep hb,c.gms,c.blks⟩
set_option maxHeartbeats 4000000 in
theorem ctake_bad(w:World)(gC gl:Nat)(xs:List LP)(hc:ChAt w gC gl xs)(i:Nat)(hi:i<xs.length)(hm:xs.length≤1000)(n:Int)(hE:takeE xs[i].l n≠0):
 Calls Tryd.prog 22 #[.pointer (some ⟨gC,0,none⟩),.int .i64 (i:Int),.int .i64 n] w fun e w'=>e= .returned (.tuple #[.agg zeroOnce.toArray,errV (takeE xs[i].l n)])∧Below w.heap.size w w':=by
 obtain⟨w1,hw1⟩:∃w1,w1=w.alloc (.cells zeroOnce.toArray 56):=⟨_,rfl⟩
 have HZ1:=qq (show Blk w1 w.heap.size 56 zeroOnce by rw[hw1];exact Blk.new _ _ _)
 have HK1:=qq (show Below w.heap.size w w1 by rw[hw1];exact(Below.refl _ w).alloc (Nat.le_refl _) _)
 have hz1:w1.heap.size=w.heap.size+1:=by rw[hw1];simp
 have HW1:=qq hw1
 clear hw1
 have HC1:=qq (hc.below HK1.out)
 have HL:=qq (line_any w1 gC gl xs HC1.out i hi hm)
 have hx:=hc.ok _ (List.getElem_mem hi)
 obtain⟨x,hxe⟩:∃x,x=xs[i]:=⟨_,rfl⟩
 rw[←hxe]at hx
 have HXe:=qq hxe
 have HX:=qq hx
 have hh:=HC1.out.held _ (List.getElem_mem hi)
 have hr:=HC1.out.range i hi
 rw[←hxe]at hh hr
 have HCp:=qq (copied_any w1 gl (i*37) x.t x.h x.s x.l.link x.l.place x.gm hr hx.lok.len HC1.out.lines.lt _ hh.map)
 have HH1:=qq hh
 have HC0:=qq hc
 rw[←hxe]at hE ⊢
 have HNe:=qq (errV_pos hE)
 have HE:=qq hE
 clear hxe hx hh hr hE hc
 generalize hEE:takeE x.l n=E at HNe HE ⊢
 have HEE:=qq hEE
 clear hEE
 go_enter Tryd.func22,Tryd.ntmps22
 go_upto_region 1 with fail
 have hw1:=HW1.out
 simp only[show zeroOnce.toArray= #[Value.int .i64 0,Value.int .u8 0,Value.int .u8 0,Value.int .u8 0,Value.int .u8 0,Value.int .u8 0,Value.int .u8 0,Value.int .u8 0,Value.int .u8 0,Value.int .u8 0,Value.int .u8 0,Value.int .u8 0,Value.int .u8 0,Value.int .u8 0,Value.int .u8 0,Value.int .u8 0,Value.int .u8 0,Value.int .u8 0,Value.int .u8 0,Value.int .u8 0,Value.int .u8 0,Value.int .u8 0,Value.int .u8 0,Value.int .u8 0,Value.int .u8 0,Value.int .u8 0,Value.int .u8 0,Value.int .u8 0,Value.int .u8 0,Value.int .u8 0,Value.int .u8 0,Value.int .u8 0,Value.int .u8 0,Value.slice none 0 0]from rfl]at hw1
 rw[←hw1]
 clear hw1
 go_wp2_with fail
 refine HL.out.mono ?_
 rintro e w2 ⟨rfl,rfl⟩
 go_wp2_with fail
 refine HCp.out.mono ?_
 rintro e w2 ⟨gn,mn,rfl,hgn,hmn,hB2,hM2,hb2⟩
 have hH2:HeldAt w2 mn x.hp:=⟨hM2,fun p hp=>(HH1.out.mem p hp).below hb2 (HH1.out.mem p hp).lt⟩
 have HT:=qq (take_any w2 gn ⟨x.l,x.hp,mn,x.t,x.h,x.s,x.M⟩ ⟨HX.out.lok,HX.out.marks,HX.out.fst,HX.out.nd⟩ hB2 hH2 n w1.heap.size ⟨hgn,hmn,hb2.size⟩)
 have HB2:=qq hb2
 have HZ2:=qq (HZ1.out.below hb2 (by omega))
 have hz2:=hb2.size
 clear hB2 hM2 hb2 hH2
 go_wp2_with fail
 refine HT.out.mono ?_
 rintro e w3 ⟨h1,-,hb3⟩
 have h1:=h1 (by show takeE x.l n≠0;rw[HEE.out];exact HE.out)
 rw[show takeE (LP.l ⟨x.l,x.hp,mn,x.t,x.h,x.s,x.M⟩) n=E from HEE.out,HNe.out]at h1
 subst h1
 have HZ3:=qq (HZ2.out.below hb3 (by omega))
 have hz3:=hb3.size
 have HB3:=qq (show Below w.heap.size w w3 from HK1.out.trans ((HB2.out.trans hb3).mono (by omega)))
 have HZa:=qq (show Blk (w3.alloc (.cells zeroOnce.toArray 56)) w3.heap.size 56 zeroOnce from Blk.new _ _ _)
 clear hb3
 go_upto_region 7 with(refine wpList_store_piece rfl 56 (.tmp 10) (.tmp 25) rfl w3.heap.size 0 rfl zeroOnce rfl 56 _ [] zeroOnce [] HZa.out (by simp) rfl rfl sizeOnce (onceC_one _ _ _ _ _) ?_;intro w4 hx4 hg4)
 have HK4:=qq (show Below w3.heap.size w3 w4 from((Below.refl _ w3).alloc (Nat.le_refl _) _).grown hg4 (by simp) (fun k e=>by cases e;exact Nat.le_refl _))
 have HZ4:=qq (HZ3.out.below HK4.out (by omega))
 have HB4:=qq (HB3.out.trans (HK4.out.mono (by omega)))
 refine wp_region_lit ?_
 refine wpList_bparts rfl 56 [] rfl zeroOnce.toArray [] rfl built_zeroOnce ?_
 go_wp2_with (refine wpList_store_piece rfl 56 (.tmp 6) (.tmp 29) rfl w.heap.size 0 rfl zeroOnce rfl 56 _ [] zeroOnce [] HZ4.out (by simp) rfl rfl sizeOnce (onceC_one _ _ _ _ _) ?_;intro w9 hx9 hg9)
 have HX9:=qq (show Blk w9 w.heap.size 56 zeroOnce from hx9.cast (by simp))
 refine bodyPost_ret (v:= .tuple #[.agg zeroOnce.toArray,errV E]) (results_blk_tmp (g:=w.heap.size) rfl _ _ _ _ _ _ rfl (by exact HNe.out.symm) HX9.out Tryd.underlying56 rfl sizeOnce) rfl ?_
 exact⟨rfl,HB4.out.grown hg9 HB4.out.size (fun k e=>by cases e;exact Nat.le_refl _)⟩
set_option maxHeartbeats 8000000 in
theorem ctake_okZ(w:World)(gC gl:Nat)(xs:List LP)(hc:ChAt w gC gl xs)(i:Nat)(hi:i<xs.length)(hm:xs.length≤1000)(n:Int)(hE:takeE xs[i].l n=0):
 Calls Tryd.prog 22 #[.pointer (some ⟨gC,0,none⟩),.int .i64 (i:Int),.int .i64 n] w fun e w'=>∃b y,e= .returned (.tuple #[.agg (onceC n (takeO xs[i].l n).key (nonceS b)).toArray,.nilIface])∧
  Arr b8 w' b 5 ((takeO xs[i].l n).key++(takeO xs[i].l n).nonce)∧LP.l y=takeL xs[i].l n∧ChAt w' gC gl (xs.set i y)∧b∉ (xs.set i y).flatMap (fun x=>x.hp.map Prod.snd)∧w.grownBy w' (some gl)∧w.heap.size≤LP.gm y∧∀z∈b::y.hp.map Prod.snd,z∈xs[i].hp.map Prod.snd∨w.heap.size≤z:=by
 obtain⟨w1,hw1⟩:∃w1,w1=w.alloc (.cells zeroOnce.toArray 56):=⟨_,rfl⟩
 have HZ1:=qq (show Blk w1 w.heap.size 56 zeroOnce by rw[hw1];exact Blk.new _ _ _)
 have HK1:=qq (show Below w.heap.size w w1 by rw[hw1];exact(Below.refl _ w).alloc (Nat.le_refl _) _)
 have hz1:w1.heap.size=w.heap.size+1:=by rw[hw1];simp
 have HW1:=qq hw1
 clear hw1
 have HC1:=qq (hc.below HK1.out)
 have HL:=qq (line_any w1 gC gl xs HC1.out i hi hm)
 have hx:=hc.ok _ (List.getElem_mem hi)
 obtain⟨x,hxe⟩:∃x,x=xs[i]:=⟨_,rfl⟩
 rw[←hxe]at hx
 have HXe:=qq hxe
 have HX:=qq hx
 have hh:=HC1.out.held _ (List.getElem_mem hi)
 have hr:=HC1.out.range i hi
 rw[←hxe]at hh hr
 have HCp:=qq (copied_any w1 gl (i*37) x.t x.h x.s x.l.link x.l.place x.gm hr hx.lok.len HC1.out.lines.lt _ hh.map)
 have HH1:=qq hh
 have HC0:=qq hc
 rw[←hxe]at hE ⊢
 have hKl:(takeO x.l n).key.length=32:=by
  by_cases hlo:n<x.l.place
  ·obtain⟨n0,n1,nh,nl,na,nf⟩:=takeE_zero hE
   have hk:=hx.lok.hi
   obtain⟨o,ho,he⟩:=hx.lok.all n nl hlo na (by omega)
   rw[takeO_low hx.lok hlo hE ho he]
   exact(hx.lok.held o ho).2.2.2.2.1
  ·rw[takeO_run (k:=(n-x.l.place).toNat) (by omega) hE]
   exact ofL_key _ _
 obtain⟨O,hO⟩:∃O,O=takeO x.l n:=⟨_,rfl⟩
 rw[←hO]at hKl ⊢
 have HOe:=qq hO
 have HKl:=qq hKl
 have HE:=qq hE
 clear hxe hx hh hr hE hc hO hKl
 go_enter Tryd.func22,Tryd.ntmps22
 go_upto_region 1 with fail
 have hw1:=HW1.out
 simp only[show zeroOnce.toArray= #[Value.int .i64 0,Value.int .u8 0,Value.int .u8 0,Value.int .u8 0,Value.int .u8 0,Value.int .u8 0,Value.int .u8 0,Value.int .u8 0,Value.int .u8 0,Value.int .u8 0,Value.int .u8 0,Value.int .u8 0,Value.int .u8 0,Value.int .u8 0,Value.int .u8 0,Value.int .u8 0,Value.int .u8 0,Value.int .u8 0,Value.int .u8 0,Value.int .u8 0,Value.int .u8 0,Value.int .u8 0,Value.int .u8 0,Value.int .u8 0,Value.int .u8 0,Value.int .u8 0,Value.int .u8 0,Value.int .u8 0,Value.int .u8 0,Value.int .u8 0,Value.int .u8 0,Value.int .u8 0,Value.int .u8 0,Value.slice none 0 0]from rfl]at hw1
 rw[←hw1]
 clear hw1
 go_wp2_with fail
 refine HL.out.mono ?_
 rintro e w2 ⟨rfl,rfl⟩
 go_wp2_with fail
 refine HCp.out.mono ?_
 rintro e w2 ⟨gn,mn,rfl,hgn,hmn,hB2,hM2,hb2⟩
 have hH2:HeldAt w2 mn x.hp:=⟨hM2,fun p hp=>(HH1.out.mem p hp).below hb2 (HH1.out.mem p hp).lt⟩
 have HT:=qq (take_any w2 gn ⟨x.l,x.hp,mn,x.t,x.h,x.s,x.M⟩ ⟨HX.out.lok,HX.out.marks,HX.out.fst,HX.out.nd⟩ hB2 hH2 n w1.heap.size ⟨hgn,hmn,hb2.size⟩)
 have HB2:=qq hb2
 have HZ2:=qq (HZ1.out.below hb2 (by omega))
 have hz2:=hb2.size
 clear hB2 hM2 hb2 hH2
 go_wp2_with fail
 refine HT.out.mono ?_
 rintro e w3 ⟨-,h1,hb3⟩
 obtain⟨b,y,h1,hA3,hyg,hyl,hyo,hBy,hHy,hnd,hzz⟩:=h1 HE.out
 have hyg':y.gm=mn:=hyg
 have hyl':y.l=takeL x.l n:=hyl
 rw[show takeO (LP.l ⟨x.l,x.hp,mn,x.t,x.h,x.s,x.M⟩) n=O from HOe.out.symm]at h1 hA3
 subst h1
 have hzz':∀z∈b::y.hp.map Prod.snd,z∈x.hp.map Prod.snd∨w2.heap.size≤z:=hzz
 have HZ3:=qq (HZ2.out.below hb3 (by omega))
 have hz3:=hb3.size
 have HB3:=qq (show Below w.heap.size w w3 from HK1.out.trans ((HB2.out.trans hb3).mono (by omega)))
 have HZa:=qq (show Blk (w3.alloc (.cells zeroOnce.toArray 56)) w3.heap.size 56 zeroOnce from Blk.new _ _ _)
 have HA3:=qq hA3
 have HBy3:=qq hBy
 have HHy3:=qq hHy
 have HYo:=qq hyo
 have HNd:=qq hnd
 have HZz:=qq hzz'
 have HYg:=qq hyg'
 have HYl:=qq hyl'
 clear hb3 hA3 hBy hHy hyo hnd hzz hzz' hyg hyg' hyl hyl' HT
 go_upto_region 8 with(refine wpList_store_piece rfl 56 (.tmp 10) (.tmp 25) rfl w3.heap.size 0 rfl (onceC n O.key (nonceS b)) rfl 56 _ [] zeroOnce [] HZa.out (by simp) rfl (by rw[onceC_len _ _ _ HKl.out];rfl) (by rw[sizeOnce,onceC_len _ _ _ HKl.out]) (onceC_one _ _ _ _ _) ?_;intro w4 hx4 hg4)
 have HX4:=qq (show Blk w4 w3.heap.size 56 (onceC n O.key (nonceS b))from hx4.cast (by simp))
 have HK4:=qq (show Below w3.heap.size w3 w4 from((Below.refl _ w3).alloc (Nat.le_refl _) _).grown hg4 (by simp) (fun k e=>by cases e;exact Nat.le_refl _))
 have hz4:w3.heap.size+1≤w4.heap.size:=by have:=hg4.size;simpa using this
 have HZ4:=qq (HZ3.out.below HK4.out (by omega))
 have HB4:=qq (HB3.out.trans (HK4.out.mono (by omega)))
 have HBy4:=qq (HBy3.out.below HK4.out HBy3.out.lt)
 have HHy4:=qq (HHy3.out.keep HK4.out)
 have HA4:=qq (HA3.out.below HK4.out HA3.out.lt)
 have HC4:=qq (HC0.out.below HB4.out)
 have hsp:=flat_split xs HC0.out.ok i hi
 have HSp:=qq hsp
 have hgl:=HC0.out.lines.lt
 have hgC:=HC0.out.top.lt
 clear hx4 hg4 HX HBy3 HHy3 HA3 hsp
 go_upto_region 9 with(first
  |(refine wpList_load_mid rfl 77 (.tmp 33) rfl gn 0 rfl y.cells _ HBy4.out.whole Tryd.underlying77 rfl (by rw[sizeLine,y.cells_len HYo.out]) ?_)
  |(refine wpList_store_piece rfl 77 (.tmp 35) (.tmp 34) rfl gl (i*37) rfl y.cells rfl 77 _ ((xs.take i).flatMap LP.cells) xs[i].cells ((xs.drop (i+1)).flatMap LP.cells) HC4.out.lines HSp.out.1 (by rw[HSp.out.2,Nat.mul_comm]) (by rw[y.cells_len HYo.out,xs[i].cells_len (HC0.out.ok _ (List.getElem_mem hi))]) (by rw[sizeLine,y.cells_len HYo.out]) (lineC_one rfl) ?_;intro w5 hx5 hg5))
 have HL5:=qq hx5
 have HX5:=qq (HX4.out.grown hg5 (fun e=>by injection e with e;omega))
 have HZ5:=qq (HZ4.out.grown hg5 (fun e=>by injection e with e;omega))
 have HHy5:=qq (HHy4.out.cells HC4.out.lines (by decide) hg5)
 have HA5:=qq (arr_grown_line HA4.out HC4.out.lines (by decide) hg5)
 have HT5:=qq (HC4.out.top.kept hg5 (fun e=>by
  injection e with e
  have h1:=HC4.out.top
  have h2:w4.heap[gl]?=some (.cells (xs.flatMap LP.cells).toArray 77 (0,0)):=HC4.out.lines
  rw[←e]at h2
  have h3:w4.heap[gC]?=some (.cells #[.slice (some ⟨gl,0,none⟩) xs.length xs.length] 68 (0,0)):=h1
  rw[h3]at h2;injection h2 with h2;injection h2 with _ hT _;exact absurd hT (by decide)))
 have HO5:=qq (show∀x∈xs,HeldAt w5 x.gm x.hp from fun x hx=>(HC4.out.held x hx).cells HC4.out.lines (by decide) hg5)
 have HG5:=qq (show w.grownBy w5 (some gl)from grownBy_trans ⟨HB4.out.os,HB4.out.tape,HB4.out.output,HB4.out.size,fun k hk _=>HB4.out.block k hk⟩ hg5 (fun _ e=> .inl e))
 have hz5:=hg5.size
 clear hx5 hg5
 refine wp_region_lit ?_
 refine wpList_load_mid rfl 56 (.tmp 10) rfl w3.heap.size 0 rfl (onceC n O.key (nonceS b)) _ HX5.out.whole Tryd.underlying56 rfl (by rw[sizeOnce,onceC_len _ _ _ HKl.out]) ?_
 go_wp2_with (refine wpList_store_piece rfl 56 (.tmp 6) (.tmp 36) rfl w.heap.size 0 rfl (onceC n O.key (nonceS b)) rfl 56 _ [] zeroOnce [] HZ5.out (by simp) rfl (by rw[onceC_len _ _ _ HKl.out];rfl) (by rw[sizeOnce,onceC_len _ _ _ HKl.out]) (onceC_one _ _ _ _ _) ?_;intro w9 hx9 hg9)
 have HX9:=qq (show Blk w9 w.heap.size 56 (onceC n O.key (nonceS b))from hx9.cast (by simp))
 refine bodyPost_ret (v:= .tuple #[.agg (onceC n O.key (nonceS b)).toArray,.nilIface]) (results_blk_tmp (g:=w.heap.size) rfl _ _ _ _ _ _ rfl rfl HX9.out Tryd.underlying56 rfl (by rw[sizeOnce,onceC_len _ _ _ HKl.out])) rfl ?_
 obtain⟨p1,p2⟩:=HC0.out.put (w':=w9) i hi y HYo.out (HT5.out.kept hg9 (fun e=>by injection e with e;omega)) (HL5.out.grown hg9 (fun e=>by injection e with e;omega)) (fun x hx=>(HO5.out x hx).cells HZ5.out (by decide) hg9) (HHy5.out.cells HZ5.out (by decide) hg9) (by rw[HYg.out];omega) [b] HNd.out (fun z hz=>by
  rcases HZz.out z hz with h|h
  ·rw[←HXe.out];exact .inl h
  ·exact .inr (by omega))
 have hg:=HG5.out
 exact⟨b,y,rfl,arr_grown_line HA5.out HZ5.out (by decide) hg9,HYl.out,p1,p2 b (by simp),⟨hg9.os.trans hg.os,hg9.tape.trans hg.tape,hg9.output.trans hg.output,Nat.le_trans hg.size hg9.size,fun k hk hne=>(hg9.block k (Nat.lt_of_lt_of_le hk hg.size) (fun e=>by injection e with e;omega)).trans (hg.block k hk hne)⟩,by rw[HYg.out];omega,fun z hz=>by
  rcases HZz.out z hz with h|h
  ·exact .inl h
  ·exact .inr (by omega)⟩
end Go.Proofs.YtelgjaiknaalkaaDoor
