/- Lemmas, joined and made smaller by a program. -/
import Derived.Test.YtelgjaiknaalkaaDoorPo16
import Derived.Test.YtelgjaiknaalkaaDoorPo17
import Derived.Test.YtelgjaiknaalkaaDoorPo18
import Derived.Test.YtelgjaiknaalkaaDoorPo10
import Derived.Test.YtelgjaiknaalkaaDoorPo07
import Derived.Lib.AppendStr
import Derived.Test.YtelgjaiknaalkaaDoorPo11
import Derived.Test.YtelgjaiknaalkaaDoorPo15
import Derived.Deep.CutRange
import Derived.Test.YtelgjaiknaalkaaDoorPo02
import Derived.StillTailTactics
import Derived.Deep.QuietTactic
import Derived.BigQuiet
import Derived.Deep.RegionLaw
import Derived.Deep.RegionWith
import Derived.Deep.RegionHeld3
open Go.Lib renaming hid → qq
set_option linter.unusedVariables false
set_option linter.unusedSimpArgs false
namespace Go.Proofs.YtelgjaiknaalkaaDoor
open Go.RowKit
set_option maxRecDepth 100000
theorem ChAt.other{w w':World}{gC gl g:Nat}{xs:List LP}{cs:List Value}(c:ChAt w gC gl xs)(hz:Blk w g 56 cs)(hg:w.grownBy w' (some g)):ChAt w' gC gl xs:=
 ⟨c.top.kept hg (fun e=>by
  injection e with e
  have h2:w.heap[g]?=some (.cells cs.toArray 56 (0,0)):=hz
  have h3:w.heap[gC]?=some (.cells #[.slice (some ⟨gl,0,none⟩) xs.length xs.length] 68 (0,0)):=c.top
  rw[←e,h3]at h2;injection h2 with h2;injection h2 with _ hT _;exact absurd hT (by decide)),
  c.lines.grown hg (fun e=>by
   injection e with e
   have h2:w.heap[g]?=some (.cells cs.toArray 56 (0,0)):=hz
   have h3:w.heap[gl]?=some (.cells (xs.flatMap LP.cells).toArray 77 (0,0)):=c.lines
   rw[←e,h3]at h2;injection h2 with h2;injection h2 with _ hT _;exact absurd hT (by decide)),
  c.ok,fun x hx=>(c.held x hx).cells hz (by decide) hg,c.gms,c.blks⟩
set_option maxHeartbeats 4000000 in
theorem next_okZ(w:World)(gC gl:Nat)(xs:List LP)(hc:ChAt w gC gl xs)(i:Nat)(hi:i<xs.length)(hm:xs.length≤1000)(hE:takeE xs[i].l xs[i].l.place=0):
 Calls Tryd.prog 14 #[.pointer (some ⟨gC,0,none⟩),.int .i64 (i:Int)] w fun e w'=>∃b y,e= .returned (.tuple #[.agg (onceC xs[i].l.place (takeO xs[i].l xs[i].l.place).key (nonceS b)).toArray,.nilIface])∧
  Arr b8 w' b 5 ((takeO xs[i].l xs[i].l.place).key++(takeO xs[i].l xs[i].l.place).nonce)∧LP.l y=takeL xs[i].l xs[i].l.place∧ChAt w' gC gl (xs.set i y)∧b∉ (xs.set i y).flatMap (fun x=>x.hp.map Prod.snd)∧w.grownBy w' (some gl)∧w.heap.size≤LP.gm y∧∀z∈b::y.hp.map Prod.snd,z∈xs[i].hp.map Prod.snd∨w.heap.size≤z:=by
 obtain⟨w1,hw1⟩:∃w1,w1=w.alloc (.cells zeroOnce.toArray 56):=⟨_,rfl⟩
 have HZ1:=qq (show Blk w1 w.heap.size 56 zeroOnce by rw[hw1];exact Blk.new _ _ _)
 have HK1:=qq (show Below w.heap.size w w1 by rw[hw1];exact(Below.refl _ w).alloc (Nat.le_refl _) _)
 have hz1:w1.heap.size=w.heap.size+1:=by rw[hw1];simp
 have HW1:=qq hw1
 clear hw1
 have hgl:=hc.lines.lt
 have HC1:=qq (hc.below HK1.out)
 have HL:=qq (line_any w1 gC gl xs HC1.out i hi hm)
 have hx:=hc.ok _ (List.getElem_mem hi)
 have c35:=HC1.out.range i hi 35 _ (lineC_35 hx.lok.len)
 have HT:=qq (ctake_okZ w1 gC gl xs HC1.out i hi hm _ hE)
 have hKl:(takeO xs[i].l xs[i].l.place).key.length=32:=by
  rw[takeO_run (l:=xs[i].l) (n:=xs[i].l.place) (k:=0) (by omega) hE]
  exact ofL_key _ _
 obtain⟨O,hO⟩:∃O,O=takeO xs[i].l xs[i].l.place:=⟨_,rfl⟩
 obtain⟨L,hL⟩:∃L,L=takeL xs[i].l xs[i].l.place:=⟨_,rfl⟩
 rw[←hO,←hL]at HT
 rw[←hO]at hKl
 rw[←hO,←hL]
 generalize xs[i].l.place=p at c35 HT ⊢
 have HKl:=qq hKl
 clear hE hx hO hL hc hKl
 go_enter Tryd.func14,Tryd.ntmps14
 go_upto_region 1 with fail
 have hw1:=HW1.out
 simp only[show zeroOnce.toArray= #[Value.int .i64 0,Value.int .u8 0,Value.int .u8 0,Value.int .u8 0,Value.int .u8 0,Value.int .u8 0,Value.int .u8 0,Value.int .u8 0,Value.int .u8 0,Value.int .u8 0,Value.int .u8 0,Value.int .u8 0,Value.int .u8 0,Value.int .u8 0,Value.int .u8 0,Value.int .u8 0,Value.int .u8 0,Value.int .u8 0,Value.int .u8 0,Value.int .u8 0,Value.int .u8 0,Value.int .u8 0,Value.int .u8 0,Value.int .u8 0,Value.int .u8 0,Value.int .u8 0,Value.int .u8 0,Value.int .u8 0,Value.int .u8 0,Value.int .u8 0,Value.int .u8 0,Value.int .u8 0,Value.int .u8 0,Value.slice none 0 0]from rfl]at hw1
 rw[←hw1]
 clear hw1
 go_wp2_with fail
 refine HL.out.mono ?_
 rintro e w2 ⟨rfl,rfl⟩
 go_wp2_with fail
 refine HT.out.mono ?_
 rintro e w3 ⟨b,y,rfl,hA3,hyl,hC3,hnd,hg3,hgm3,hzz3⟩
 have HZ3:=qq (HZ1.out.grown hg3 (fun e=>by injection e with e;omega))
 have HZz3:=qq hzz3
 have HA3:=qq hA3
 have HC3:=qq hC3
 have HYl:=qq hyl
 have HNd:=qq hnd
 have HG3:=qq (show w.grownBy w3 (some gl)from grownBy_trans ⟨HK1.out.os,HK1.out.tape,HK1.out.output,HK1.out.size,fun k hk _=>HK1.out.block k hk⟩ hg3 (fun _ e=> .inl e))
 clear hA3 hC3 hyl hnd hg3 hzz3
 go_wp2_with (refine wpList_store_piece rfl 56 (.tmp 4) (.tmp 21) rfl w.heap.size 0 rfl (onceC p O.key (nonceS b)) rfl 56 _ [] zeroOnce [] HZ3.out (by simp) rfl (by rw[onceC_len _ _ _ HKl.out];rfl) (by rw[sizeOnce,onceC_len _ _ _ HKl.out]) (onceC_one _ _ _ _ _) ?_;intro w9 hx9 hg9)
 have HX9:=qq (show Blk w9 w.heap.size 56 (onceC p O.key (nonceS b))from hx9.cast (by simp))
 refine bodyPost_ret (v:= .tuple #[.agg (onceC p O.key (nonceS b)).toArray,.nilIface]) (results_blk_tmp (g:=w.heap.size) rfl _ _ _ _ _ _ rfl rfl HX9.out Tryd.underlying56 rfl (by rw[sizeOnce,onceC_len _ _ _ HKl.out])) rfl ?_
 have hg:=HG3.out
 exact⟨b,y,rfl,arr_grown_line HA3.out HZ3.out (by decide) hg9,HYl.out,HC3.out.other HZ3.out hg9,HNd.out,⟨hg9.os.trans hg.os,hg9.tape.trans hg.tape,hg9.output.trans hg.output,Nat.le_trans hg.size hg9.size,fun k hk hne=>(hg9.block k (Nat.lt_of_lt_of_le hk hg.size) (fun e=>by injection e with e;omega)).trans (hg.block k hk hne)⟩,by omega,fun z hz=>by
  rcases HZz3.out z hz with h|h
  ·exact .inl h
  ·exact .inr (by omega)⟩
end Go.Proofs.YtelgjaiknaalkaaDoor
namespace Go.Proofs.YtelgjaiknaalkaaDoor
open Go.RowKit
set_option maxRecDepth 100000 in
set_option maxHeartbeats 2000000 in
theorem newbad_any(w:World)(s:List (BitVec 8))(n:Int)(n0: -9223372036854775808≤n)(n1:n<9223372036854775808)(hn:soundB n=false):
 Calls Tryd.prog 11 #[arrV b8 s,.int .i64 n] w fun e w'=>e= .returned (.pointer (some ⟨w.heap.size+1,0,none⟩))∧Boxed w' (w.heap.size+1) 68 (.slice none 0 0)∧Below w.heap.size w w':=by
 obtain⟨w1,hw1⟩:∃w1,w1=(w.alloc (.cells (s.map b8).toArray 29)).alloc (.cells #[.slice none 0 0] 68):=⟨_,rfl⟩
 have HC1:=qq (show Boxed w1 (w.heap.size+1) 68 (.slice none 0 0) by rw[hw1];have h:=Boxed.new (w.alloc (.cells (s.map b8).toArray 29)) 68 (.slice none 0 0);rw[World.size_alloc]at h;exact h)
 have HK1:=qq (show Below w.heap.size w w1 by rw[hw1];exact((Below.refl _ w).alloc (Nat.le_refl _) _).alloc (by simp) _)
 have HW1:=qq hw1
 have HR:=qq (root_any n n0 (by omega) w1)
 have hrt:rootV n= -1:=by unfold rootV;rw[if_neg (by rw[hn];decide)]
 rw[arrV_mk]
 clear hw1 hn
 go_enter Tryd.func11,Tryd.ntmps11
 go_upto_region 2 with fail
 rw[←HW1.out]
 go_wp2_with fail
 refine HR.out.mono ?_
 rintro e w2 ⟨rfl,rfl⟩
 rw[hrt]
 go_wp2_with fail
 go_ret
 exact⟨rfl,HC1.out,HK1.out⟩
def ChX(w:World)(gC gl:Nat)(xs:List LP):Prop:=(xs=[]∧Boxed w gC 68 (.slice none 0 0))∨ChAt w gC gl xs
theorem ChX.at_{w:World}{gC gl:Nat}{xs:List LP}(h:ChX w gC gl xs){i:Nat}(hi:i<xs.length):ChAt w gC gl xs:=by
 rcases h with⟨h1,h2⟩|h
 ·subst h1;exact absurd hi (by simp)
 ·exact h
attribute [local go_sem] Oper.semAt_some
theorem infoInt:(Tryd.prog.info? 3).map (fun i=>(i.zero,i.size,i.bytes))=some (some (.int .i64 0),1,8):=by kernel_rfl
def i64v(z:Int):Value:= .int .i64 z
def upL:Nat→Int→Int→List Int
 |0,_,_=> []
 |f+1,p,n=>if p<0 then[]else p::upL f (parV p n) n
def pathL(x n:Int):List Int:=upL 8 (parV x n) n
def stepS(path:List Int)(x:Int)(r:Nat)(s:List (BitVec 8)):List (BitVec 8):=if(if r=0 then x else path.getD (r-1) 0)=childL (path.getD r 0)then derV s lLeft else derV s lRight
def downS(path:List Int)(x:Int):Nat→List (BitVec 8)→List (BitVec 8)
 |0,s=>s
 |r+1,s=>downS path x r (stepS path x r s)
def leafS(n i:Nat)(s:List (BitVec 8)):List (BitVec 8):=downS (pathL (2*(i:Int)) n) (2*(i:Int)) (pathL (2*(i:Int)) n).length s
theorem stepS_len(path:List Int)(x:Int)(r:Nat)(s:List (BitVec 8)):(stepS path x r s).length=32:=by
 unfold stepS
 generalize(if r=0 then x else path.getD (r-1) 0)=u
 by_cases h:u=childL (path.getD r 0)
 ·rw[if_pos h];exact derV_len _ _
 ·rw[if_neg h];exact derV_len _ _
theorem downS_len(path:List Int)(x:Int):∀(r:Nat) (s:List (BitVec 8)),s.length=32→(downS path x r s).length=32
 |0,s,h=>by rw[downS];exact h
 |r+1,s,h=>by rw[downS];exact downS_len path x r _ (stepS_len _ _ _ _)
def waysL(path:List Int)(x:Int):Nat→List Bool
 |0=> []
 |r+1=>decide ((if r=0 then x else path.getD (r-1) 0)=childL (path.getD r 0))::waysL path x r
def goS:List Bool→List (BitVec 8)→List (BitVec 8)
 | [],s=>s
 |b::l,s=>goS l (if b then derV s lLeft else derV s lRight)
theorem downS_go(path:List Int)(x:Int):∀(r:Nat) (s:List (BitVec 8)),downS path x r s=goS (waysL path x r) s
 |0,s=>rfl
 |r+1,s=>by
  rw[downS,downS_go path x r,waysL,goS]
  unfold stepS
  by_cases h:(if r=0 then x else path.getD (r-1) 0)=childL (path.getD r 0)<;>simp[h]
def bitsL:Nat→Nat→List Bool
 |0,_=> []
 |k+1,i=>decide (i<2^k)::bitsL k (if i<2^k then i else i-2^k)
theorem ways_bits:∀k:Nat,k≤5→∀i:Nat,i<2^k→waysL (pathL (2*(i:Int)) ((2^k:Nat):Int)) (2*(i:Int)) (pathL (2*(i:Int)) ((2^k:Nat):Int)).length=bitsL k i:=by
 have h:∀k:Nat,k<6→∀i:Nat,i<2^k→waysL (pathL (2*(i:Int)) ((2^k:Nat):Int)) (2*(i:Int)) (pathL (2*(i:Int)) ((2^k:Nat):Int)).length=bitsL k i:=by decide+kernel
 exact fun k hk i hi=>h k (by omega) i hi
theorem secs_go:∀(k i:Nat) (s:List (BitVec 8)),i<2^k→(secs k s)[i]?=some (goS (bitsL k i) s)
 |0,i,s,h=>by
  have:i=0:=by simpa using h
  subst this;rfl
 |k+1,i,s,h=>by
  have e:secs (k+1) s=secs k (derV s lLeft)++secs k (derV s lRight):=rfl
  rw[e,bitsL,goS]
  rw[Nat.pow_succ]at h
  by_cases hi:i<2^k
  ·rw[List.getElem?_append_left (by rw[secs_len];exact hi),secs_go k i _ hi];simp[hi]
  ·rw[List.getElem?_append_right (by rw[secs_len];omega),secs_len,secs_go k (i-2^k) _ (by omega)];simp[hi]
theorem secs_leaf(k:Nat)(hk:k≤5)(i:Nat)(hi:i<2^k)(s:List (BitVec 8)):(secs k s)[i]?=some (leafS (2^k) i s):=by
 rw[secs_go k i s hi]
 unfold leafS
 rw[downS_go,ways_bits k hk i hi]
theorem idx8(a:Int):∃i:Nat,i<8∧wrap64 ((IntKind.u64.wrap a).tmod 8)=(i:Int):=by
 have e:IntKind.u64.wrap a=a % 18446744073709551616:=rfl
 rw[e]
 have h0:0≤a % 18446744073709551616:=Int.emod_nonneg _ (by decide)
 rw[Int.tmod_eq_emod_of_nonneg h0]
 generalize a % 18446744073709551616=b at h0
 refine⟨(b % 8).toNat,by omega,?_⟩
 unfold wrap64
 omega
theorem mkL_get(k i:Nat)(hk:k≤5)(hi:i<2^k)(s:List (BitVec 8))(gms:List Nat)(hg:gms.length=2^k)(h:i<(mkL (secs k s) gms).length):(mkL (secs k s) gms)[i].l=startL (leafS (2^k) i s):=by
 have h1:=secs_leaf k hk i hi s
 have h2:i<(secs k s).length:=by rw[secs_len];exact hi
 have h3:(secs k s)[i]=leafS (2^k) i s:=by rw[List.getElem?_eq_getElem h2]at h1;exact Option.some.inj h1
 have hg2:i<gms.length:=by rw[hg];exact hi
 have e:(mkL (secs k s) gms)[i]?=some ⟨startL (secs k s)[i],[],gms[i],false,0,0#64,[]⟩:=by
  unfold mkL
  rw[List.getElem?_zipWith,List.getElem?_eq_getElem h2,List.getElem?_eq_getElem hg2]
 rw[List.getElem?_eq_getElem h]at e
 rw[Option.some.inj e]
 show startL (secs k s)[i]=_
 rw[h3]
end Go.Proofs.YtelgjaiknaalkaaDoor
namespace Go.Proofs.YtelgjaiknaalkaaDoor
open Go.RowKit
set_option maxRecDepth 100000
set_option maxHeartbeats 4000000 in
theorem next_bad(w:World)(gC gl:Nat)(xs:List LP)(hc:ChAt w gC gl xs)(i:Nat)(hi:i<xs.length)(hm:xs.length≤1000)(hE:takeE xs[i].l xs[i].l.place≠0):
 Calls Tryd.prog 14 #[.pointer (some ⟨gC,0,none⟩),.int .i64 (i:Int)] w fun e w'=>e= .returned (.tuple #[.agg zeroOnce.toArray,errV (takeE xs[i].l xs[i].l.place)])∧Below w.heap.size w w':=by
 obtain⟨w1,hw1⟩:∃w1,w1=w.alloc (.cells zeroOnce.toArray 56):=⟨_,rfl⟩
 have HZ1:=qq (show Blk w1 w.heap.size 56 zeroOnce by rw[hw1];exact Blk.new _ _ _)
 have HK1:=qq (show Below w.heap.size w w1 by rw[hw1];exact(Below.refl _ w).alloc (Nat.le_refl _) _)
 have hz1:w1.heap.size=w.heap.size+1:=by rw[hw1];simp
 have HW1:=qq hw1
 clear hw1
 have HC1:=qq (hc.below HK1.out)
 have HL:=qq (line_any w1 gC gl xs HC1.out i hi hm)
 have hx:=hc.ok _ (List.getElem_mem hi)
 have c35:=HC1.out.range i hi 35 _ (lineC_35 hx.lok.len)
 have hT:=ctake_bad w1 gC gl xs HC1.out i hi hm _ hE
 have hNe:=errV_pos hE
 generalize takeE xs[i].l xs[i].l.place=E at hT hNe hE ⊢
 generalize xs[i].l.place=p at c35 hT ⊢
 rw[hNe]at hT ⊢
 have HT:=qq hT
 clear hE hx hc hT hNe
 go_enter Tryd.func14,Tryd.ntmps14
 go_upto_region 1 with fail
 have hw1:=HW1.out
 simp only[show zeroOnce.toArray= #[Value.int .i64 0,Value.int .u8 0,Value.int .u8 0,Value.int .u8 0,Value.int .u8 0,Value.int .u8 0,Value.int .u8 0,Value.int .u8 0,Value.int .u8 0,Value.int .u8 0,Value.int .u8 0,Value.int .u8 0,Value.int .u8 0,Value.int .u8 0,Value.int .u8 0,Value.int .u8 0,Value.int .u8 0,Value.int .u8 0,Value.int .u8 0,Value.int .u8 0,Value.int .u8 0,Value.int .u8 0,Value.int .u8 0,Value.int .u8 0,Value.int .u8 0,Value.int .u8 0,Value.int .u8 0,Value.int .u8 0,Value.int .u8 0,Value.int .u8 0,Value.int .u8 0,Value.int .u8 0,Value.int .u8 0,Value.slice none 0 0]from rfl]at hw1
 rw[←hw1]
 clear hw1
 go_wp2_with fail
 refine HL.out.mono ?_
 rintro e w2 ⟨rfl,rfl⟩
 go_wp2_with fail
 refine HT.out.mono ?_
 rintro e w3 ⟨rfl,hb3⟩
 have HZ3:=qq (HZ1.out.below hb3 (by omega))
 have HB3:=qq (HK1.out.trans (hb3.mono (by omega)))
 clear hb3
 go_wp2_with (refine wpList_store_piece rfl 56 (.tmp 4) (.tmp 21) rfl w.heap.size 0 rfl zeroOnce rfl 56 _ [] zeroOnce [] HZ3.out (by simp) rfl rfl sizeOnce (onceC_one _ _ _ _ _) ?_;intro w9 hx9 hg9)
 have HX9:=qq (show Blk w9 w.heap.size 56 zeroOnce from hx9.cast (by simp))
 refine bodyPost_ret (v:= .tuple #[.agg zeroOnce.toArray,.iface 41 (.int .i64 (E:Int))]) (results_blk_tmp (g:=w.heap.size) rfl _ _ _ _ _ _ rfl rfl HX9.out Tryd.underlying56 rfl sizeOnce) rfl ?_
 exact⟨rfl,HB3.out.grown hg9 HB3.out.size (fun k e=>by cases e;exact Nat.le_refl _)⟩
def linesN(a:Int):Nat:=if soundB a then a.toNat else 0
theorem sound_two{a:Int}(h:soundB a=true):∃k,k≤5∧a=((2^k:Nat):Int):=by
 unfold soundB at h
 simp only[Bool.or_eq_true,beq_iff_eq]at h
 rcases h with((((h|h)|h)|h)|h)|h
 ·exact⟨0,by decide,h⟩
 ·exact⟨1,by decide,h⟩
 ·exact⟨2,by decide,h⟩
 ·exact⟨3,by decide,h⟩
 ·exact⟨4,by decide,h⟩
 ·exact⟨5,by decide,h⟩
theorem new_all(w:World)(hT:Tab w)(s:List (BitVec 8))(hs:s.length=32)(a:Int)(a0: -9223372036854775808≤a)(a1:a<9223372036854775808):
 Calls Tryd.prog 11 #[arrV b8 s,.int .i64 a] w fun e w'=>∃gC gl xs,e= .returned (.pointer (some ⟨gC,0,none⟩))∧ChX w' gC gl xs∧xs.length=linesN a∧(∀(i:Nat) (h:i<xs.length),xs[i].l=startL (leafS (linesN a) i s))∧(∀x∈xs,LP.hp x=[])∧
  (∀x∈xs,w.heap.size≤LP.gm x)∧w.heap.size≤gC∧gC<w'.heap.size∧w.heap.size≤gl∧gl<w'.heap.size∧linesN a≤32∧Below w.heap.size w w':=by
 cases hsd:soundB a with
 |true=>
  obtain⟨k,hk,rfl⟩:=sound_two hsd
  have hN:linesN ((2^k:Nat):Int)=2^k:=by unfold linesN;rw[if_pos hsd,Int.toNat_natCast]
  refine(newc_any w hT s hs k hk).mono ?_
  rintro e w' ⟨gC,gl,gms,rfl,hg,hc,h1,h2,h3,hb⟩
  have hl:(mkL (secs k s) gms).length=2^k:=by rw[mkL_len _ _ (by rw[secs_len,hg]),secs_len]
  rw[hN]
  refine⟨gC,gl,mkL (secs k s) gms,rfl,.inr hc,hl,fun i h=>mkL_get k i hk (by rw[hl]at h;exact h) s gms hg h,fun x hx=>?_,fun x hx=>?_,h1,hc.top.lt,h2,hc.lines.lt,Nat.pow_le_pow_right (n:=2) (by decide) hk,hb⟩
  ·obtain⟨s',_,g,_,rfl⟩:=mkL_mem _ _ x hx;rfl
  ·obtain⟨s',_,g,hg',rfl⟩:=mkL_mem _ _ x hx;exact h3 g hg'
 |false=>
  have hN:linesN a=0:=by unfold linesN;rw[hsd];rfl
  rw[hN]
  refine(newbad_any w s a a0 a1 hsd).mono ?_
  rintro e w' ⟨rfl,hc,hb⟩
  have hlt:=hc.lt
  exact⟨w.heap.size+1,w.heap.size+1,[],rfl,.inl ⟨rfl,hc⟩,rfl,(fun i h=>by simp at h),(fun x hx=>by cases hx),(fun x hx=>by cases hx),by omega,hlt,by omega,hlt,by omega,hb⟩
theorem row_blk{w:World}{B E K g n cap:Nat}{us:List Value}(h:w.ownsRow B E K (.slice (some ⟨g,0,none⟩) n cap) n us):∃spare,Blk w g E (us++spare)∧B≤g:=by
 rcases h.2 with⟨e,-⟩|⟨g',cap',cur,e,hbg,hg,hnc,hcm,hcs,ht⟩
 ·cases e
 ·injection e with e1 e2 e3
  injection e1 with e1
  injection e1 with e1
  subst e1
  refine⟨cur.toList.drop (n*K),?_,hbg⟩
  show w.heap[g]?=some (.cells (us++cur.toList.drop (n*K)).toArray E (0,0))
  rw[hg,←ht,List.take_append_drop]
end Go.Proofs.YtelgjaiknaalkaaDoor
namespace Go.Proofs.YtelgjaiknaalkaaDoor
open Go.RowKit
structure Frm(w w':World)(S:List Nat):Prop where
 os:w'.os=w.os
 tape:w'.tape=w.tape
 output:w'.output=w.output
 size:w.heap.size≤w'.heap.size
 block:∀k,k<w.heap.size→k∉S→w'.heap[k]?=w.heap[k]?
theorem Frm.refl(w:World)(S:List Nat):Frm w w S:=⟨rfl,rfl,rfl,Nat.le_refl _,fun _ _ _=>rfl⟩
theorem Frm.below{w w' w'':World}{S:List Nat}{B:Nat}(h:Frm w w' S)(hb:Below B w' w'')(hB:w'.heap.size≤B):Frm w w'' S:=
 ⟨hb.os.trans h.os,hb.tape.trans h.tape,hb.output.trans h.output,Nat.le_trans h.size hb.size,fun k hk hn=>(hb.block k (by have:=h.size;omega)).trans (h.block k hk hn)⟩
theorem Frm.grown{w w' w'':World}{S:List Nat}{g:Nat}(h:Frm w w' S)(hg:w'.grownBy w'' (some g))(hm:g∈S):Frm w w'' S:=
 ⟨hg.os.trans h.os,hg.tape.trans h.tape,hg.output.trans h.output,Nat.le_trans h.size hg.size,fun k hk hn=>(hg.block k (by have:=h.size;omega) (fun e=>by injection e with e;subst e;exact hn hm)).trans (h.block k hk hn)⟩
theorem Frm.toBelow{w0 w w':World}{S:List Nat}{B:Nat}(hb:Below B w0 w)(h:Frm w w' S)(hB:B≤w.heap.size)(hS:∀q∈S,B≤q):Below B w0 w':=
 ⟨h.os.trans hb.os,h.tape.trans hb.tape,h.output.trans hb.output,Nat.le_trans hb.size h.size,fun k hk=>(h.block k (by omega) (fun hm=>by have:=hS k hm;omega)).trans (hb.block k hk)⟩
theorem rd_frm{w w':World}{S:List Nat}{B:Nat}{A:Option Addr}{ns:List (BitVec 8)}(h:Rd b8 w B A ns)(hB:B≤w.heap.size)(f:Frm w w' S)(hA:∀(b off:Nat),A=some ⟨b,off,none⟩→b∉S):Rd b8 w' B A ns:=fun hn=>by
 obtain⟨b,off,e,hlt,hc⟩:=h hn
 exact⟨b,off,e,hlt,fun j u hu=>by rw[←hc j u hu];exact World.cell?_of_block (f.block b (by omega) (hA b off e))⟩
def chFoot(gC gl:Nat)(xs:List LP):List Nat:=gC::gl::(xs.map LP.gm++xs.flatMap fun x=>x.hp.map Prod.snd)
theorem ChAt.of_same{w w':World}{gC gl:Nat}{xs:List LP}(c:ChAt w gC gl xs)(h:∀k∈chFoot gC gl xs,w'.heap[k]?=w.heap[k]?):ChAt w' gC gl xs:=
 ⟨(h gC (by simp[chFoot])).trans c.top,(h gl (by simp[chFoot])).trans c.lines,c.ok,fun x hx=>⟨(c.held x hx).map.at_ (h _ (by
     unfold chFoot;simp only[List.mem_cons,List.mem_append];exact .inr (.inr (.inl (List.mem_map.2 ⟨x,hx,rfl⟩))))),fun p hp=>(h _ (by
     unfold chFoot;simp only[List.mem_cons,List.mem_append];exact .inr (.inr (.inr (List.mem_flatMap.2 ⟨x,hx,List.mem_map.2 ⟨p,hp,rfl⟩⟩))))).trans ((c.held x hx).mem p hp)⟩,c.gms,c.blks⟩
theorem ChAt.foot_lt{w:World}{gC gl:Nat}{xs:List LP}(c:ChAt w gC gl xs):∀k∈chFoot gC gl xs,k<w.heap.size:=by
 intro k hk
 unfold chFoot at hk
 simp only[List.mem_cons,List.mem_append]at hk
 rcases hk with rfl|rfl|hk|hk
 ·exact c.top.lt
 ·exact c.lines.lt
 ·exact c.gm_lt k hk
 ·exact c.blk_lt k hk
theorem ChAt.foot_nd{w:World}{gC gl:Nat}{xs:List LP}(c:ChAt w gC gl xs):(chFoot gC gl xs).Nodup:=by
 have h1:w.heap[gC]?=some (.cells #[.slice (some ⟨gl,0,none⟩) xs.length xs.length] 68 (0,0)):=c.top
 have h2:w.heap[gl]?=some (.cells (xs.flatMap LP.cells).toArray 77 (0,0)):=c.lines
 have hm:∀k∈xs.map LP.gm,∀(cs:Array Value) (T:TypeId),w.heap[k]?≠some (.cells cs T (0,0)):=fun k hk cs T e=>by
  obtain⟨x,hx,rfl⟩:=List.mem_map.1 hk
  exact(c.held x hx).map.not_cells e rfl
 have hb:∀k∈xs.flatMap (fun x=>x.hp.map Prod.snd),∃cs,w.heap[k]?=some (.cells cs 5 (0,0)):=fun k hk=>by
  obtain⟨x,hx,hk⟩:=List.mem_flatMap.1 hk
  obtain⟨p,hp,rfl⟩:=List.mem_map.1 hk
  exact⟨_,(c.held x hx).mem p hp⟩
 unfold chFoot
 refine List.nodup_cons.2 ⟨?_,List.nodup_cons.2 ⟨?_,List.nodup_append.2 ⟨c.gms,c.blks,fun a ha b hb' e=>?_⟩⟩⟩
 ·simp only[List.mem_cons,List.mem_append,not_or]
  refine⟨fun e=>?_,fun h=>hm _ h _ _ h1,fun h=>?_⟩
  ·rw[←e,h1]at h2;injection h2 with h2;injection h2 with _ hT _;exact absurd hT (by decide)
  ·obtain⟨cs,h3⟩:=hb _ h
   rw[h1]at h3;injection h3 with h3;injection h3 with _ hT _;exact absurd hT (by decide)
 ·simp only[List.mem_append,not_or]
  refine⟨fun h=>hm _ h _ _ h2,fun h=>?_⟩
  obtain⟨cs,h3⟩:=hb _ h
  rw[h2]at h3;injection h3 with h3;injection h3 with _ hT _;exact absurd hT (by decide)
 ·subst e
  obtain⟨cs,h3⟩:=hb _ hb'
  exact hm _ ha _ _ h3
theorem ChAt.out{w:World}{gC gl:Nat}{xs:List LP}(c:ChAt w gC gl xs){cs:Array Value}{T:TypeId}{g:Nat}(hg:w.heap[g]?=some (.cells cs T (0,0)))(h1:T≠68)(h2:T≠77)(h3:T≠5):g∉chFoot gC gl xs:=by
 intro hm
 unfold chFoot at hm
 simp only[List.mem_cons,List.mem_append]at hm
 rcases hm with rfl|rfl|hm|hm
 ·have h4:w.heap[g]?=some (.cells #[.slice (some ⟨gl,0,none⟩) xs.length xs.length] 68 (0,0)):=c.top
  rw[h4]at hg;injection hg with hg;injection hg with _ hT _;exact h1 hT.symm
 ·have h4:w.heap[g]?=some (.cells (xs.flatMap LP.cells).toArray 77 (0,0)):=c.lines
  rw[h4]at hg;injection hg with hg;injection hg with _ hT _;exact h2 hT.symm
 ·obtain⟨x,hx,rfl⟩:=List.mem_map.1 hm
  exact(c.held x hx).map.not_cells hg rfl
 ·obtain⟨x,hx,hm⟩:=List.mem_flatMap.1 hm
  obtain⟨p,hp,rfl⟩:=List.mem_map.1 hm
  have h4:w.heap[p.2]?=some (.cells ((p.1.key++p.1.nonce).map b8).toArray 5 (0,0)):=(c.held x hx).mem p hp
  rw[h4]at hg;injection hg with hg;injection hg with _ hT _;exact h3 hT.symm
structure EP where
 gC:Nat
 gl:Nat
 xs:List LP
 no:Int
 leaf:Nat
def EP.cells(e:EP):List Value:=[.pointer (some ⟨e.gC,0,none⟩),.int .i64 e.no,.int .i64 (e.leaf:Int)]
def EP.foot(e:EP):List Nat:=chFoot e.gC e.gl e.xs
theorem EP.cells_len(e:EP):e.cells.length=3:=rfl
theorem EP.cells_one(e:EP):∀u∈e.cells,u.oneCell'=true:=by
 intro u hu
 simp only[EP.cells,List.mem_cons,List.not_mem_nil,or_false]at hu
 rcases hu with rfl|rfl|rfl<;>rfl
structure BX where
 grp:List (BitVec 8)
 v:Value
 es:List EP
 clr:Bool
def BX.cells(b:BX):List Value:=b.grp.map b8++ [b.v,.bool b.clr]
def BX.efoot(b:BX):List Nat:=b.es.flatMap EP.foot
def BX.foot(gB:Nat)(b:BX):List Nat:=gB::(b.v.ownBlock.toList++b.efoot)
structure BoxAt(w:World)(base gB:Nat)(b:BX):Prop where
 blk:Blk w gB 45 b.cells
 glen:b.grp.length=32
 row:w.ownsRow base 49 3 b.v b.es.length (b.es.flatMap EP.cells)
 ch:∀e∈b.es,ChAt w e.gC e.gl e.xs
 bnd:∀e∈b.es,e.leaf<e.xs.length∧e.xs.length≤32∧0≤e.no∧e.no≤4294967295
 rise:b.es.Pairwise fun x y=>x.no<y.no
 many:b.es.length≤5
 nd:b.efoot.Nodup
 low:base≤gB∧∀k∈b.efoot,base≤k
section
variable{w w':World}{base gB:Nat}{b:BX}
theorem BX.c32(h:b.grp.length=32):b.cells[32]?=some b.v:=by
 unfold BX.cells;rw[List.getElem?_append_right (by simp[h])];simp[h]
theorem BX.c33(h:b.grp.length=32):b.cells[33]?=some (.bool b.clr):=by
 unfold BX.cells;rw[List.getElem?_append_right (by simp[h])];simp[h]
theorem row_in{E:TypeId}{K n g:Nat}{v:Value}{us:List Value}(h:w.ownsRow base E K v n us)(hv:v.ownBlock=some g):base≤g∧g<w.heap.size∧∃cs,w.heap[g]?=some (.cells cs E (0,0)):=by
 rcases h.2 with⟨rfl,-⟩|⟨g',cap,cur,rfl,hb,hg,-⟩
 ·cases hv
 ·injection hv with hv
  have hv':g'=g:=hv
  subst hv'
  refine⟨hb,?_,cur,hg⟩
  rcases Nat.lt_or_ge g' w.heap.size with h1|h1
  ·exact h1
  ·rw[Array.getElem?_eq_none h1]at hg;cases hg
theorem row_same{E:TypeId}{K n:Nat}{v:Value}{us:List Value}(h:w.ownsRow base E K v n us)(hs:∀g,v.ownBlock=some g→w'.heap[g]?=w.heap[g]?):w'.ownsRow base E K v n us:=by
 refine⟨h.1,?_⟩
 rcases h.2 with h0|⟨g,cap,cur,hv,hbg,hg,rest⟩
 ·exact .inl h0
 ·exact .inr ⟨g,cap,cur,hv,hbg,(hs g (by rw[hv];rfl)).trans hg,rest⟩
theorem BoxAt.foot_lt(h:BoxAt w base gB b):∀k∈BX.foot gB b,base≤k∧k<w.heap.size:=by
 intro k hk
 simp only[BX.foot,List.mem_cons,List.mem_append,Option.mem_toList]at hk
 rcases hk with rfl|hk|hk
 ·exact⟨h.low.1,h.blk.lt⟩
 ·obtain⟨h1,h2,-⟩:=row_in h.row hk
  exact⟨h1,h2⟩
 ·refine⟨h.low.2 k hk,?_⟩
  obtain⟨e,he,hk⟩:=List.mem_flatMap.1 hk
  exact(h.ch e he).foot_lt k hk
theorem BoxAt.of_same(h:BoxAt w base gB b)(hs:∀k∈BX.foot gB b,w'.heap[k]?=w.heap[k]?):BoxAt w' base gB b:=
 ⟨(hs gB (by simp[BX.foot])).trans h.blk,h.glen,row_same h.row (fun g hg=>hs g (by simp[BX.foot,hg])),fun e he=>(h.ch e he).of_same (fun k hk=>hs k (by
   simp only[BX.foot,List.mem_cons,List.mem_append]
   exact .inr (.inr (List.mem_flatMap.2 ⟨e,he,hk⟩)))),h.bnd,h.rise,h.many,h.nd,h.low⟩
theorem BoxAt.below(h:BoxAt w base gB b)(hb:Below w.heap.size w w'):BoxAt w' base gB b:=h.of_same (fun k hk=>hb.block k (h.foot_lt k hk).2)
theorem BoxAt.frm{S:List Nat}(h:BoxAt w base gB b)(f:Frm w w' S)(hS:∀k∈BX.foot gB b,k∉S):BoxAt w' base gB b:=h.of_same (fun k hk=>f.block k (h.foot_lt k hk).2 (hS k hk))
theorem BoxAt.drew(h:BoxAt w base gB b):BoxAt w.drew base gB b:=h.of_same (fun k hk=>rfl)
theorem BoxAt.alloc(h:BoxAt w base gB b)(o:Obj):BoxAt (w.alloc o) base gB b:=h.below ((Below.refl _ w).alloc (Nat.le_refl _) o)
theorem BoxAt.gB_lt(h:BoxAt w base gB b):gB<w.heap.size:=h.blk.lt
theorem BoxAt.gB_out(h:BoxAt w base gB b){e:EP}(he:e∈b.es):∀{cs:Array Value} {T:TypeId} {g:Nat},w.heap[g]?=some (.cells cs T (0,0))→T≠68→T≠77→T≠5→g∉e.foot:=by
 intro cs T g hg h1 h2 h3
 exact(h.ch e he).out hg h1 h2 h3
end
structure EM where
 no:Int
 leaf:Nat
 ls:List LineM
structure BM where
 grp:List (BitVec 8)
 es:List EM
 clr:Bool
def EP.m(e:EP):EM:=⟨e.no,e.leaf,e.xs.map LP.l⟩
def BX.m(b:BX):BM:=⟨b.grp,b.es.map EP.m,b.clr⟩
def emptyM:BM:=⟨List.replicate 32 0#8,[],false⟩
def newLs(n:Nat)(s:List (BitVec 8)):List LineM:=(List.range n).map fun i=>startL (leafS n i s)
def lastNo(es:List EM):Int:=match es.getLast? with
 |none=> -1
 |some e=>e.no
def enterE(b:BM)(grp:List (BitVec 8))(no leaves leaf:Int):Nat:=
 if b.clr then 10 else if soundB leaves=false∨leaf<0∨leaves≤leaf then 3 else if no<0∨4294967295<no then 6 else if b.es≠ []∧(grp≠b.grp∨no≤lastNo b.es)then 6 else 0
def pushE{α:Type}(es:List α)(e:α):List α:=if 4≤es.length then(es++ [e]).tail else es++ [e]
def enterM(b:BM)(grp:List (BitVec 8))(no leaves leaf:Int)(s:List (BitVec 8)):BM:=
 if enterE b grp no leaves leaf=0 then⟨grp,pushE b.es ⟨no,leaf.toNat,newLs leaves.toNat s⟩,false⟩else b
section
variable{w w':World}{base gB:Nat}{b:BX}
theorem BoxAt.at_row(h:BoxAt w base gB b){g m c:Nat}(hv:b.v= .slice (some ⟨g,0,none⟩) m c){i:Nat}(hi:i<b.es.length):
 w.cell? ⟨g,i*3,none⟩=some (.pointer (some ⟨b.es[i].gC,0,none⟩))∧w.cell? ⟨g,i*3+1,none⟩=some (.int .i64 b.es[i].no)∧w.cell? ⟨g,i*3+2,none⟩=some (.int .i64 (b.es[i].leaf:Int)):=by
 have hr:=h.row
 rw[hv]at hr
 have hc:∀j u,b.es[i].cells[j]?=some u→w.cell? ⟨g,i*3+j,none⟩=some u:=fun j u hu=>by
  have h1:=rflat_at (f:=EP.cells) (K:=3) (xs:=b.es) (k:=i) (x:=b.es[i]) (fun x _=>x.cells_len) (List.getElem?_eq_getElem hi) j u hu
  have h2:=World.ownsRow.cells (g:=g) hr rfl _ u h1
  rw[Addr.add_lit,Nat.zero_add,Nat.mul_comm]at h2
  exact h2
 exact⟨hc 0 _ rfl,hc 1 _ rfl,hc 2 _ rfl⟩
theorem BoxAt.v_some(h:BoxAt w base gB b)(hn:0<b.es.length):∃g c,b.v= .slice (some ⟨g,0,none⟩) b.es.length c∧base≤g∧g<w.heap.size∧b.es.length≤c:=by
 obtain⟨A,c,hv,hr,-,hc,-⟩:=rowS_shape h.row
 obtain⟨g,off,e,hg,-⟩:=hr (by rw[rflat_len (K:=3) (fun x _=>x.cells_len)];omega)
 rcases h.row.2 with⟨-,h0⟩|⟨g',cap,cur,hv',hbg,hg',hnc,-⟩
 ·omega
 ·refine⟨g',cap,hv',hbg,?_,hnc⟩
  rcases Nat.lt_or_ge g' w.heap.size with h1|h1
  ·exact h1
  ·rw[Array.getElem?_eq_none h1]at hg';cases hg'
theorem BoxAt.cell32(h:BoxAt w base gB b):w.cell? ⟨gB,32,none⟩=some b.v:=h.blk.cell 32 (BX.c32 h.glen)
theorem BoxAt.cell33(h:BoxAt w base gB b):w.cell? ⟨gB,33,none⟩=some (.bool b.clr):=h.blk.cell 33 (BX.c33 h.glen)
theorem BoxAt.drewN(h:BoxAt w base gB b)(q:Nat):BoxAt (w.drewN q) base gB b:=h.of_same (fun k hk=>rfl)
end
set_option maxRecDepth 100000
theorem last_nil(w:World):Calls Tryd.prog 13 #[.pointer none] w fun e w'=>e= .returned (.pointer none)∧∃q,w'=w.drewN q:=by
 go_enter Tryd.func13,Tryd.ntmps13
 go_wp2_with fail
 go_ret
 exact⟨rfl,0,rfl⟩
theorem last_empty{w:World}{base gB:Nat}{b:BX}(h:BoxAt w base gB b)(hn:b.es=[]):Calls Tryd.prog 13 #[.pointer (some ⟨gB,0,none⟩)] w fun e w'=>e= .returned (.pointer none)∧∃q,w'=w.drewN q:=by
 obtain⟨A,c,hv,-⟩:=rowS_shape h.row
 have c32:=h.cell32
 rw[hv,hn]at c32
 simp only[List.length_nil]at c32
 clear h hv hn
 go_enter Tryd.func13,Tryd.ntmps13
 go_wp2_with fail
 go_ret
 exact⟨rfl,0,rfl⟩
theorem last_some{w:World}{base gB:Nat}{b:BX}(h:BoxAt w base gB b){n g c:Nat}(hn:b.es.length=n+1)(hv:b.v= .slice (some ⟨g,0,none⟩) (n+1) c):
 Calls Tryd.prog 13 #[.pointer (some ⟨gB,0,none⟩)] w fun e w'=>e= .returned (.pointer (some ⟨g,n*3,none⟩))∧∃q,w'=w.drewN q:=by
 have c32:=h.cell32
 have hm:=h.many
 rw[hv]at c32
 obtain⟨m,hme⟩:∃m,m=n+1:=⟨_,rfl⟩
 rw[←hme]at c32
 have hsi:(m:Int)-1=(n:Int):=by omega
 have h0:((m:Int)=0)=False:=by simp;omega
 have h1:(0:Int)≤(n:Int):=by omega
 have h2:(n:Int)<(m:Int):=by omega
 have h3:n<m:=by omega
 have hw:IntKind.i64.wrap (n:Int)=(n:Int):=by unfold IntKind.wrap;simp[IntKind.bits,IntKind.signed];omega
 clear h hv hn hm hme
 go_enter Tryd.func13,Tryd.ntmps13
 go_wp2_with fail
 go_quiet (fail)
 go_wp2_with fail
 go_ret
 exact⟨rfl,_,rfl⟩
theorem built_box0:Tryd.prog.built 45 []=some (BX.cells ⟨List.replicate 32 0#8,.slice none 0 0,[],false⟩).toArray:=by kernel_rfl
theorem BoxAt.fresh{w:World}{base gB:Nat}{c:Bool}(hb:Blk w gB 45 (BX.cells ⟨List.replicate 32 0#8,.slice none 0 0,[],c⟩))(hB:base≤gB):BoxAt w base gB ⟨List.replicate 32 0#8,.slice none 0 0,[],c⟩:=
 ⟨hb,by simp,World.ownsRow_nil w base _ 3,(fun e he=>by cases he),(fun e he=>by cases he),List.Pairwise.nil,by simp,List.nodup_nil,hB,(fun k hk=>by cases hk)⟩
theorem boxNew_any(w:World):Calls Tryd.prog 5 #[] w fun e w'=>e= .returned (.pointer (some ⟨w.heap.size,0,none⟩))∧BoxAt w' w.heap.size w.heap.size ⟨List.replicate 32 0#8,.slice none 0 0,[],false⟩∧Below w.heap.size w w':=by
 go_enter Tryd.func5,Tryd.ntmps5
 go_wp2_with (refine wpList_bparts rfl 45 [] rfl _ [] rfl built_box0 ?_)
 go_ret
 exact⟨rfl,BoxAt.fresh (Blk.new w _ _) (Nat.le_refl _),(Below.refl _ w).alloc (Nat.le_refl _) _⟩
end Go.Proofs.YtelgjaiknaalkaaDoor
