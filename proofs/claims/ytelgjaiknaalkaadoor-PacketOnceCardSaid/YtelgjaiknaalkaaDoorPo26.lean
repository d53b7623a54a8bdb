/- Lemmas, joined and made smaller by a program. -/
import Derived.Test.YtelgjaiknaalkaaDoorPo24
import Derived.Test.YtelgjaiknaalkaaDoorPo25
import Derived.Lib.SlBytesConst
import Derived.Laws.Externs
import Derived.Lib.Mul64
import Derived.Test.YtelgjaiknaalkaaDoorPo02
import Derived.Deep.RegionHeld3
open Go.Lib renaming hid → qq
set_option linter.unusedVariables false
set_option linter.unusedSimpArgs false
namespace Go.Proofs.YtelgjaiknaalkaaDoor
open Go.RowKit
def c4:List (BitVec 32):=[1634760805#32,857760878#32,2036477234#32,1797285236#32]
def pieceV(key nonce:List (BitVec 8))(number:Int):List (BitVec 8):=if badP nonce.length number=0 then pieceL key nonce (BitVec.ofInt 32 number)else List.replicate 64 0#8
theorem pieceV_len(key nonce:List (BitVec 8))(number:Int):(pieceV key nonce number).length=64:=by
 unfold pieceV;split
 ·exact pieceL_len _ _ _
 ·simp
theorem badP_zero{n:Nat}{number:Int}(h:badP n number=0):n=12∧0≤number∧number≤4294967295:=by
 unfold badP at h
 split at h
 ·cases h
 ·split at h
  ·cases h
  ·omega
theorem zeros64(w:World)(key:List (BitVec 8)):Arr b8 ((w.alloc (.cells (key.map b8).toArray 54)).alloc (.cells ((List.replicate 64 0#8).map b8).toArray 99)) (w.heap.size+1) 99 (List.replicate 64 0#8):=Arr.at_size b8 _ _ (by simp)
theorem info64:(Tryd.prog.info? 99).map (·.size)=some (List.replicate 64 0#8).length:=by rw[List.length_replicate];kernel_rfl
set_option maxRecDepth 100000 in
set_option maxHeartbeats 2000000 in
theorem cpiece_any(key:List (BitVec 8))(A:Option Addr)(n c B:Nat)(nonce:List (BitVec 8))(number:Int)(w:World)(hk:key.length=32)(hr:Rd b8 w B A nonce)(hB:B≤w.heap.size)(hn:nonce.length=n)(hnc:n≤c):
 Calls Tryd.prog 43 #[arrV b8 key,.slice A n c,.int .i64 number] w fun e w'=>e= .returned (.tuple #[arrV b8 (pieceV key nonce number),errV (badP n number)])∧Below w.heap.size w w':=by
 by_cases hz:badP n number=0
 ·obtain⟨h12,h0,hmx⟩:=badP_zero hz
  subst h12
  obtain⟨b,off,rfl,hb,hc⟩:=hr (by omega)
  have e:pieceV key nonce number=pieceL key nonce (BitVec.ofInt 32 number):=by unfold pieceV;rw[hn,if_pos hz]
  rw[e,hz,errV_zero]
  exact piece_ok key b off c B nonce number w hk hc (by omega) hn hnc hz _ rfl
 ·have e:pieceV key nonce number=List.replicate 64 0#8:=by unfold pieceV;rw[hn,if_neg hz]
  rw[e]
  obtain⟨bad,hbad⟩:∃bad,bad=badP n number:=⟨_,rfl⟩
  have hc:=fun w=>check03_any A n c number w
  simp only[←hbad]at hc
  rw[←hbad]at hz ⊢
  rw[errV_pos hz]at hc ⊢
  have HC:=qq hc
  have HZ:=qq (zeros64 w key)
  rw[arrV_mk,arrV_mk]
  clear hr hn e hbad hc hk
  go_enter Tryd.func43,Tryd.ntmps43
  go_wp2_with fail
  refine(HC.out _).mono ?_
  rintro e w' ⟨rfl,rfl⟩
  go_wp2_with (first
   |refine wpList_load_arr rfl 99 _ rfl (w.heap.size+1) rfl _ (List.replicate 64 0#8) HZ.out _ Tryd.underlying99 rfl info64 ?_
   |(refine wpList_store_arr rfl 99 _ _ rfl (w.heap.size+1) rfl (List.replicate 64 0#8) rfl _ _ HZ.out rfl info64 b8_one' ?_;intro w9 ho9 hg9))
  have Ho9:=qq ho9
  clear ho9
  refine bodyPost_ret (v:= .tuple #[.agg ((List.replicate 64 0#8).map b8).toArray,.iface 41 (.int .i64 (bad:Int))]) (results_arr_tmp (g:=w.heap.size+1) rfl _ _ _ _ _ _ rfl rfl Ho9.out Tryd.underlying99 rfl info64) rfl ?_
  exact⟨rfl,(((Below.refl _ _).alloc (Nat.le_refl _) _).alloc (by simp) _).grown hg9 (by simp;omega) (fun k e=>by cases e;omega)⟩
def mixAt(key nonce:List (BitVec 8))(number:Int)(text:List (BitVec 8))(i:Nat):BitVec 8:=text.getD i 0#8^^^(pieceL key nonce (BitVec.ofInt 32 (number+((i/64:Nat):Int)))).getD (i % 64) 0#8
def mixTo(key nonce:List (BitVec 8))(number:Int)(text:List (BitVec 8))(k:Nat):List (BitVec 8):=(List.range k).map (mixAt key nonce number text)
theorem mixTo_len(key nonce:List (BitVec 8))(number:Int)(text:List (BitVec 8))(k:Nat):(mixTo key nonce number text k).length=k:=by simp[mixTo]
def mixBad(n len:Nat)(number:Int):Nat:=if badP n number≠0 then badP n number else if 0<len∧4294967295<number+(((len-1)/64:Nat):Int)then 8 else 0
def mixV(key nonce:List (BitVec 8))(number:Int)(text:List (BitVec 8)):List (BitVec 8):=if mixBad nonce.length text.length number=0 then mixTo key nonce number text text.length else[]
theorem mixBad_first{n len:Nat}{number:Int}(h:badP n number≠0):mixBad n len number=badP n number:=if_pos h
theorem mixBad_none{len:Nat}{number:Int}(h:badP 12 number=0)(hk:∀k,k<len→number+((k/64:Nat):Int)≤4294967295):mixBad 12 len number=0:=by
 unfold mixBad
 rw[if_neg (by rw[h];simp),if_neg]
 rintro⟨h1,h2⟩
 have:=hk (len-1) (by omega)
 omega
end Go.Proofs.YtelgjaiknaalkaaDoor
namespace Go.Proofs.YtelgjaiknaalkaaDoor
def fillN(n:Nat):Nat:=(16-n % 16) % 16
def aeadText(ctx mixed:List (BitVec 8)):List (BitVec 8):=
 ctx++(List.replicate (fillN ctx.length) 0#8++(mixed++(List.replicate (fillN mixed.length) 0#8++(le8 (BitVec.ofNat 64 ctx.length)++le8 (BitVec.ofNat 64 mixed.length)))))
theorem le8_len(n:BitVec 64):(le8 n).length=8:=by simp[le8]
theorem aeadText_len(ctx mixed:List (BitVec 8)):(aeadText ctx mixed).length≤ctx.length+mixed.length+48:=by
 unfold aeadText fillN
 simp only[List.length_append,List.length_replicate,le8_len]
 omega
def aeadKey(key nonce:List (BitVec 8)):List (BitVec 8):=(pieceV key nonce 0).take 32
theorem aeadKey_len(key nonce:List (BitVec 8)):(aeadKey key nonce).length=32:=by
 unfold aeadKey;rw[List.length_take,pieceV_len];rfl
def tagOf(key nonce ctx mixed:List (BitVec 8)):List (BitVec 8):=markV (aeadKey key nonce) (aeadText ctx mixed)
theorem tagOf_len(key nonce ctx mixed:List (BitVec 8)):(tagOf key nonce ctx mixed).length=16:=markV_len _ _
def sealBad(n c t:Nat):Nat:=if n≠12∨1048576<c∨1048576<t then 1 else 0
def sealV(key nonce ctx text:List (BitVec 8)):List (BitVec 8):=if sealBad nonce.length ctx.length text.length=0 then mixV key nonce 1 text++tagOf key nonce ctx (mixV key nonce 1 text)else[]
def openBad(key nonce ctx sealed:List (BitVec 8)):Nat:=
 if nonce.length≠12∨1048592<ctx.length∨1048592<sealed.length then 1
 else if sealed.length<16 then 2
 else if tagOf key nonce ctx (sealed.take (sealed.length-16))=sealed.drop (sealed.length-16)then 0 else 2
def openV(key nonce ctx sealed:List (BitVec 8)):List (BitVec 8):=if openBad key nonce ctx sealed=0 then mixV key nonce 1 (sealed.take (sealed.length-16))else[]
theorem mixV_len1(key nonce text:List (BitVec 8))(hn:nonce.length=12)(ht:text.length≤1100000):mixBad 12 text.length 1=0∧(mixV key nonce 1 text).length=text.length:=by
 have hb:badP 12 1=0:=rfl
 have h0:mixBad 12 text.length 1=0:=mixBad_none hb (fun k hk=>by have:=Nat.div_le_self k 64;omega)
 refine⟨h0,?_⟩
 unfold mixV
 rw[hn,if_pos h0,mixTo_len]
theorem mixTo_back(key nonce text:List (BitVec 8)):mixTo key nonce 1 (mixTo key nonce 1 text text.length) text.length=text:=by
 apply List.ext_getElem
 ·rw[mixTo_len]
 ·intro i h1 h2
  have e:(mixTo key nonce 1 text text.length).getD i 0#8=mixAt key nonce 1 text i:=by
   unfold mixTo;simp[List.getD,h2]
  have e2:(mixTo key nonce 1 (mixTo key nonce 1 text text.length) text.length)[i]=mixAt key nonce 1 (mixTo key nonce 1 text text.length) i:=by
   simp[mixTo]
  rw[e2]
  unfold mixAt at e ⊢
  rw[e,BitVec.xor_assoc,BitVec.xor_self,BitVec.xor_zero]
  simp[List.getD,h2]
theorem mixV_ok(key nonce text:List (BitVec 8))(hn:nonce.length=12)(ht:text.length≤1100000):mixV key nonce 1 text=mixTo key nonce 1 text text.length:=by
 unfold mixV;rw[hn,if_pos (mixV_len1 key nonce text hn ht).1]
theorem mixV_back(key nonce text:List (BitVec 8))(hn:nonce.length=12)(ht:text.length≤1100000):mixV key nonce 1 (mixV key nonce 1 text)=text:=by
 have h1:=mixV_len1 key nonce text hn ht
 have h2:=mixV_len1 key nonce (mixV key nonce 1 text) hn (by rw[h1.2];exact ht)
 have e:=mixV_ok key nonce text hn ht
 have e2:=mixV_ok key nonce (mixV key nonce 1 text) hn (by rw[h1.2];exact ht)
 rw[e2,h1.2,e,mixTo_back]
end Go.Proofs.YtelgjaiknaalkaaDoor
namespace Go.Proofs.YtelgjaiknaalkaaDoor
open Go.RowKit
theorem add64_go(x y c:BitVec 64)(hc:c.toNat≤1)(w:World):
 (callFunc 74 #[.int .u64 (bv x),.int .u64 (bv y),.int .u64 (bv c)]).run Tryd.prog w= .ok (.value (.tuple #[.int .u64 (bv (ad x y c)),.int .u64 (bv (cy x y c))])) w:=by
 have h:=ad_cy x y c hc
 have hc':=cy_le x y c hc
 have hx:=x.isLt
 have hy:=y.isLt
 have ha:=(ad x y c).isLt
 rw[run_callFunc_extern Tryd.func74 (by kernel_rfl) (by kernel_rfl) (by kernel_rfl) (e:=add64Entry) (by kernel_rfl),show bv x=((x.toNat:Nat):Int)from rfl,show bv y=((y.toNat:Nat):Int)from rfl,show bv c=((c.toNat:Nat):Int)from rfl,run_add64 x.toNat y.toNat c.toNat (by omega) (by omega) (by omega) (by omega)]
 simp only[Result.andThen,bv]
 rw[show((x.toNat:Int)+(y.toNat:Int)+(c.toNat:Int)) % 18446744073709551616=((ad x y c).toNat:Int) by omega,show((x.toNat:Int)+(y.toNat:Int)+(c.toNat:Int))/18446744073709551616=((cy x y c).toNat:Int) by omega]
theorem add64_zero(x y:BitVec 64)(w:World):
 (callFunc 74 #[.int .u64 (bv x),.int .u64 (bv y),.int .u64 0]).run Tryd.prog w= .ok (.value (.tuple #[.int .u64 (bv (ad x y 0)),.int .u64 (bv (cy x y 0))])) w:=add64_go x y 0 (by simp) w
theorem add64_five(x:BitVec 64)(w:World):
 (callFunc 74 #[.int .u64 (bv x),.int .u64 5,.int .u64 0]).run Tryd.prog w= .ok (.value (.tuple #[.int .u64 (bv (ad x 5 0)),.int .u64 (bv (cy x 5 0))])) w:=add64_go x 5 0 (by simp) w
theorem add64_none(x c:BitVec 64)(hc:c.toNat≤1)(w:World):
 (callFunc 74 #[.int .u64 (bv x),.int .u64 0,.int .u64 (bv c)]).run Tryd.prog w= .ok (.value (.tuple #[.int .u64 (bv (ad x 0 c)),.int .u64 (bv (cy x 0 c))])) w:=add64_go x 0 c hc w
theorem mh_eq(x y:BitVec 64):(x>>>32)*(y>>>32)+((x>>>32)*(y&&&4294967295#64)+((x&&&4294967295#64)*(y&&&4294967295#64))>>>32)>>>32+(((x>>>32)*(y&&&4294967295#64)+((x&&&4294967295#64)*(y&&&4294967295#64))>>>32&&&4294967295#64)+(x&&&4294967295#64)*(y>>>32))>>>32=mh x y:=by
 have hx:=x.isLt
 have hy:=y.isLt
 obtain⟨bd,bt,bw,hhi⟩:=Lib.mul64_hi x.toNat y.toNat hx hy
 have ba:=Lib.half_mul_le (a:=x.toNat/4294967296) (b:=y.toNat/4294967296) (by omega) (by omega)
 have bb:=Lib.half_mul_le (a:=x.toNat/4294967296) (b:=y.toNat % 4294967296) (by omega) (by omega)
 have bc:=Lib.half_mul_le (a:=x.toNat % 4294967296) (b:=y.toNat/4294967296) (by omega) (by omega)
 have m32:∀z:BitVec 64,(z&&&4294967295#64).toNat=z.toNat % 4294967296:=fun z=>by
  rw[BitVec.toNat_and,show(4294967295#64).toNat=2^32-1 from rfl,Nat.and_two_pow_sub_one_eq_mod]
 have s32:∀z:BitVec 64,(z>>>32).toNat=z.toNat/4294967296:=fun z=>by rw[BitVec.toNat_ushiftRight,Nat.shiftRight_eq_div_pow]
 apply BitVec.eq_of_toNat_eq
 unfold mh
 rw[BitVec.toNat_ofNat,←hhi]
 simp only[BitVec.toNat_add,BitVec.toNat_mul,m32,s32]
 have hm:=mh_le x y
 generalize x.toNat/4294967296*(y.toNat/4294967296)=a at*
 generalize x.toNat/4294967296*(y.toNat % 4294967296)=b at*
 generalize x.toNat % 4294967296*(y.toNat/4294967296)=c at*
 generalize x.toNat % 4294967296*(y.toNat % 4294967296)=d at*
 omega
set_option maxHeartbeats 1000000 in
theorem mul64_any(x y:BitVec 64)(w:World):
 Calls Tryd.prog 79 #[.int .u64 (bv x),.int .u64 (bv y)] w fun e w'=>e= .returned (.tuple #[.int .u64 (bv (mh x y)),.int .u64 (bv (ml x y))])∧w=w':=by
 go_enter Tryd.func79,Tryd.ntmps79
 go_wp2_with fail
 go_ret2
 refine⟨?_,rfl⟩
 rw[←mh_eq]
 rfl
def lowK(xs:List (BitVec 8))(k:Nat):BitVec 64:=BitVec.ofNat 64 (leNP ((xs.take 8).drop k))
theorem lowK_step(xs:List (BitVec 8))(k:Nat)(hk:k<8)(hl:8≤xs.length):lowK xs (k+1)<<<8|||(xs.getD k 0#8).setWidth 64=lowK xs k:=by
 have hn:((xs.take 8).drop (k+1)).length≤7:=by rw[List.length_drop,List.length_take];omega
 have hlt:leNP ((xs.take 8).drop (k+1))<72057594037927936:=by
  refine Nat.lt_of_lt_of_le (leN_lt _) ?_
  rw[show 72057594037927936=256^7 from rfl]
  exact Nat.pow_le_pow_right (by omega) hn
 have e:leNP ((xs.take 8).drop k)=(xs.getD k 0#8).toNat+256*leNP ((xs.take 8).drop (k+1)):=by
  rw[List.drop_eq_getElem_cons (i:=k) (by rw[List.length_take];omega)]
  simp only[leNP]
  congr 2
  rw[List.getElem_take]
  simp[List.getD,show k<xs.length by omega]
 have h1:(lowK xs (k+1)).toNat=leNP ((xs.take 8).drop (k+1)):=by unfold lowK;rw[BitVec.toNat_ofNat];omega
 have hb:=(xs.getD k 0#8).isLt
 have h2:((xs.getD k 0#8).setWidth 64).toNat=(xs.getD k 0#8).toNat:=by rw[BitVec.toNat_setWidth];omega
 have hand:lowK xs (k+1)<<<8&&&(xs.getD k 0#8).setWidth 64=0#64:=by
  ext i hi
  simp only[BitVec.getElem_and,BitVec.getElem_zero,BitVec.getElem_shiftLeft,BitVec.getElem_setWidth]
  by_cases h:i<8
  ·simp[h]
  ·rw[BitVec.getLsbD_of_ge _ i (by omega)];simp
 rw[←BitVec.add_eq_or_of_and_eq_zero _ _ hand]
 apply BitVec.eq_of_toNat_eq
 rw[BitVec.toNat_add,BitVec.toNat_shiftLeft,h1,h2,Nat.shiftLeft_eq]
 unfold lowK
 rw[BitVec.toNat_ofNat,e]
 omega
theorem lowK_8(xs:List (BitVec 8)):lowK xs 8=0#64:=by unfold lowK;rw[List.drop_eq_nil_of_le (by rw[List.length_take];omega)];rfl
set_option maxRecDepth 100000 in
theorem low_any(w:World)(B n c:Nat)(A:Option Addr)(xs:List (BitVec 8))(hr:Rd b8 w B A xs)(hn:n=xs.length)(h8:8≤n):
 Calls Tryd.prog 63 #[.slice A n c] w fun e w'=>e= .returned (.int .u64 (bv (low8 xs)))∧w=w':=by
 go_enter Tryd.func63,Tryd.ntmps63
 go_wp2_with fail
 have HR:=qq hr
 have HN:=qq hn
 clear hr hn
 go_loopw [3,4] (fun v i wr=>∃k:Nat,k≤8∧i= .int .i64 ((k:Int)-1)∧v= .int .u64 (bv (lowK xs k))∧wr=w) (fun _ i _=>(intOf i+1).toNat)
 case atStart=>exact⟨8,by omega,by simp,by rw[lowK_8];rfl,rfl⟩
 case round=>
  obtain⟨k,hk,rfl,rfl,rfl⟩:=hrel
  by_cases h0:k=0
  ·subst h0
   have e1:((0:Nat):Int)-1= -1:=rfl
   rw[e1]
   clear e1
   go_wp2_with fail
   go_ret
   exact⟨rfl,rfl⟩
  ·obtain⟨j,rfl⟩:∃j,k=j+1:=⟨k-1,by omega⟩
   obtain⟨b,off,rfl,hb,hc⟩:=HR.out.at_ (k:=j) (by rw[←HN.out];omega)
   have hx:xs[j]'(by rw[←HN.out];omega)=xs.getD j 0#8:=by simp[List.getD,show j<xs.length by rw[←HN.out];omega]
   rw[hx]at hc
   have hs:=lowK_step xs j (by omega) (by rw[←HN.out];omega)
   obtain⟨x,hxe⟩:∃x,x=xs.getD j 0#8:=⟨_,rfl⟩
   rw[←hxe]at hc hs
   have hc':wr.cell? ⟨b,off+j,none⟩=some (.int .u8 (bv x)):=hc
   have HS:=qq hs
   clear hx hs hc hxe
   have e1:((j+1:Nat):Int)-1=(j:Int):=by omega
   rw[e1]
   clear e1 h0
   have hj:j<8:=by omega
   go_wp2_with fail
   go_roundw
   case rel=>exact⟨j,by omega,by simp,by rw[←HS.out],trivial⟩
   case measure=>simp[intOf]
theorem own_zeros2{w:World}{B N:Nat}{v:Value}(h:w.ownsRow B 5 1 v N (madeCells (Value.int .u8 0).cells (N*1)).toList):Own b8 w B 5 v (List.replicate N 0#8):=by
 unfold Own
 rw[List.length_replicate]
 have e:(madeCells (Value.int .u8 0).cells (N*1)).toList=List.replicate N (b8 0#8):=by rw[Nat.mul_one];exact toList_madeCells_one _ _
 rw[e]at h
 rw[List.map_replicate]
 exact h
set_option maxRecDepth 100000 in
theorem fill_any(n:Nat)(hn:n≤100000000)(w:World):
 Calls Tryd.prog 45 #[.int .i64 (n:Int)] w fun e w'=>∃g,e= .returned (.slice (some ⟨g,0,none⟩) ((16-n % 16) % 16) ((16-n % 16) % 16))∧Own b8 w' w.heap.size 5 (.slice (some ⟨g,0,none⟩) ((16-n % 16) % 16) ((16-n % 16) % 16)) (List.replicate ((16-n % 16) % 16) 0#8)∧Below w.heap.size w w':=by
 obtain⟨i0,hi0,hz0,hz1,hz2⟩:=info_parts infoU8
 obtain⟨m,hm⟩:∃m:Nat,m=(16-n % 16) % 16:=⟨_,rfl⟩
 rw[←hm]
 have h1:(16-(n:Int) % 16) % 16=(m:Int):=by omega
 have hm16:m≤16:=by omega
 clear hm
 go_enter Tryd.func45,Tryd.ntmps45
 go_wp2_with (refine wpList_make_full _ rfl (.tmp 6) (.tmp 6) 33 rfl w.heap.size 5 i0 _ 1 Tryd.underlying33 hi0 hz0 hz1 .i64 .i64 _ _ m rfl rfl h1 h1 (by rw[hz2];omega) (by simp[maxLen];omega) (by simp) ?_;intro w3 hown3 hg3)
 go_ret
 exact⟨_,rfl,own_zeros2 hown3,(Below.refl _ w).grown hg3 (Nat.le_refl _) (fun k e=>by cases e)⟩
attribute [local go_sem] add64_zero add64_go
theorem gb_set(W:World)(b k:Nat)(v:Value):W.grownBy (W.setCell ⟨b,k,none⟩ v) (some b):=
 ⟨rfl,rfl,rfl,by simp,fun j _ hj=>Below.heap_setCell _ _ _ j (fun e=>hj (by rw[e]))⟩
theorem quiet_same{P:Program}{f:FuncId}{args:Array Value}{w:World}{n:Nat}{v:Value}(h:Calls P f args (w.drewN n) fun e w'=>e= .returned v∧w.drewN n=w'):Calls P f args (w.drewN n) fun e w''=>e= .returned v∧∃m,w''=w.drewN m:=
 Calls.quiet_of_same (h.mono fun _ _ h=>⟨h.1,h.2.symm⟩)
def u64v(x:BitVec 64):Value:= .int .u64 (bv x)
set_option maxRecDepth 100000 in
set_option maxHeartbeats 1000000 in
theorem at1_any(w:World)(g:Nat)(m:W4)(x y:BitVec 64)(hm:Arr u64v w g 152 m.list):
 Calls Tryd.prog 80 #[.int .i64 1,.int .u64 (bv x),.int .u64 (bv y),.pointer (some ⟨g,0,none⟩)] w fun e w'=>(∃v,e= .returned v)∧Arr u64v w' g 152 (at1 m x y).list∧w.grownBy w' (some g):=by
 have c0:w.cell? ⟨g,0,none⟩=some (.int .u64 (bv m.a)):=hm.at_ rfl
 have c1:w.cell? ⟨g,1,none⟩=some (.int .u64 (bv m.b)):=hm.at_ rfl
 have c2:w.cell? ⟨g,2,none⟩=some (.int .u64 (bv m.c)):=hm.at_ rfl
 have c3:w.cell? ⟨g,3,none⟩=some (.int .u64 (bv m.d)):=hm.at_ rfl
 have f1:=hm.frozen 1
 have f2:=hm.frozen 2
 have f3:=hm.frozen 3
 have HM:=qq hm
 have k1:(cy m.b (ml x y) 0#64).toNat≤1:=cy_le _ _ _ (by simp)
 clear hm
 go_enter Tryd.func80,Tryd.ntmps80
 go_wp2_with fail
 refine(mul64_any x y _).mono ?_
 rintro e w' ⟨rfl,rfl⟩
 go_wp2_with fail
 go_end0
 exact⟨⟨_,rfl⟩,((HM.out.set_ 1 (ad m.b (ml x y) 0#64)).set_ 2 (ad m.c (mh x y) (cy m.b (ml x y) 0#64))).set_ 3 (m.d+cy m.c (mh x y) (cy m.b (ml x y) 0#64)),grownBy_trans (grownBy_trans (gb_set _ _ _ _) (gb_set _ _ _ _) (fun _ e=> .inl e)) (gb_set _ _ _ _) (fun _ e=> .inl e)⟩
set_option maxRecDepth 100000 in
set_option maxHeartbeats 1000000 in
theorem at2_any(w:World)(g:Nat)(m:W4)(x y:BitVec 64)(hm:Arr u64v w g 152 m.list):
 Calls Tryd.prog 80 #[.int .i64 2,.int .u64 (bv x),.int .u64 (bv y),.pointer (some ⟨g,0,none⟩)] w fun e w'=>(∃v,e= .returned v)∧Arr u64v w' g 152 (at2 m x y).list∧w.grownBy w' (some g):=by
 have c0:w.cell? ⟨g,0,none⟩=some (.int .u64 (bv m.a)):=hm.at_ rfl
 have c1:w.cell? ⟨g,1,none⟩=some (.int .u64 (bv m.b)):=hm.at_ rfl
 have c2:w.cell? ⟨g,2,none⟩=some (.int .u64 (bv m.c)):=hm.at_ rfl
 have c3:w.cell? ⟨g,3,none⟩=some (.int .u64 (bv m.d)):=hm.at_ rfl
 have f1:=hm.frozen 1
 have f2:=hm.frozen 2
 have f3:=hm.frozen 3
 have HM:=qq hm
 have k1:(cy m.c (ml x y) 0#64).toNat≤1:=cy_le _ _ _ (by simp)
 clear hm
 go_enter Tryd.func80,Tryd.ntmps80
 go_wp2_with fail
 refine(mul64_any x y _).mono ?_
 rintro e w' ⟨rfl,rfl⟩
 go_wp2_with fail
 go_end0
 exact⟨⟨_,rfl⟩,(HM.out.set_ 2 (ad m.c (ml x y) 0#64)).set_ 3 (ad m.d (mh x y) (cy m.c (ml x y) 0#64)),grownBy_trans (gb_set _ _ _ _) (gb_set _ _ _ _) (fun _ e=> .inl e)⟩
def SumA(w:World)(b:Nat)(h:BitVec 64×BitVec 64×BitVec 64)(r0 r1:BitVec 64):Prop:=Arr u64v w b 130 [h.1,h.2.1,h.2.2,r0,r1]
set_option maxRecDepth 100000 in
set_option maxHeartbeats 1000000 in
theorem times_any(w:World)(b:Nat)(h0 h1 h2 r0 r1:BitVec 64)(hs:SumA w b (h0,h1,h2) r0 r1):
 Calls Tryd.prog 75 #[.pointer (some ⟨b,0,none⟩)] w fun e w'=>(∃v,e= .returned v)∧SumA w' b (timesW (h0,h1,h2) r0 r1) r0 r1∧w.grownBy w' (some b):=by
 unfold SumA at hs
 have HS:=qq hs
 have c0:w.cell? ⟨b,0,none⟩=some (.int .u64 (bv h0)):=hs.at_ rfl
 have c1:w.cell? ⟨b,1,none⟩=some (.int .u64 (bv h1)):=hs.at_ rfl
 have c2:w.cell? ⟨b,2,none⟩=some (.int .u64 (bv h2)):=hs.at_ rfl
 have c3:w.cell? ⟨b,3,none⟩=some (.int .u64 (bv r0)):=hs.at_ rfl
 have c4:w.cell? ⟨b,4,none⟩=some (.int .u64 (bv r1)):=hs.at_ rfl
 clear hs
 go_enter Tryd.func75,Tryd.ntmps75
 go_wp2_with fail
 go_quiet ((go_at_call 79;exact quiet_same (mul64_any _ _ _)))
 have hlt:=HS.out.lt
 have HB1:=qq (below_drewN (Below.refl w.heap.size w) nq)
 have hz1:(w.drewN nq).heap.size=w.heap.size:=rfl
 generalize w.drewN nq=w1 at HB1 hz1 ⊢
 clear c0 c1 c2 c3 c4
 go_wp2_with fail
 have HM2:=qq (Arr.at_size u64v (w:=w1) 152 (W4.mk (ml h0 r0) (mh h0 r0) 0 0).list hz1)
 have HB2:=qq (HB1.out.alloc (by omega) (.cells ((W4.mk (ml h0 r0) (mh h0 r0) 0 0).list.map u64v).toArray 152))
 have hz2:(w1.alloc (.cells ((W4.mk (ml h0 r0) (mh h0 r0) 0 0).list.map u64v).toArray 152)).heap.size=w.heap.size+1:=by rw[World.size_alloc,hz1]
 change Code.wp _ _ _ _ (w1.alloc (.cells ((W4.mk (ml h0 r0) (mh h0 r0) 0 0).list.map u64v).toArray 152))
 generalize w1.alloc (.cells ((W4.mk (ml h0 r0) (mh h0 r0) 0 0).list.map u64v).toArray 152)=w2 at HM2 HB2 hz2 ⊢
 have HS2:=qq (HS.out.below HB2.out hlt)
 clear HB1
 obtain⟨M2,hM2⟩:∃M,M=W4.mk (ml h0 r0) (mh h0 r0) 0 0:=⟨_,rfl⟩
 rw[←hM2]at HM2
 have hws2:w.heap.size<w2.heap.size:=by omega
 clear hz2
 have c0:w2.cell? ⟨b,0,none⟩=some (.int .u64 (bv h0)):=HS2.out.at_ rfl
 have c4:w2.cell? ⟨b,4,none⟩=some (.int .u64 (bv r1)):=HS2.out.at_ rfl
 go_region_held3 (fun w':World=>w'.cell? ⟨b,0,none⟩=some (.int .u64 (bv h0))∧w'.cell? ⟨b,4,none⟩=some (.int .u64 (bv r1)))
  (first
   |exact⟨HS3.out.at_ rfl,HS3.out.at_ rfl⟩
   |go_keep)
  ((go_simp;refine(at1_any _ _ M2 h0 r1 HM2.out.drew).mono ?_;rintro e w3 ⟨⟨v3,rfl⟩,hm3,hg3⟩;have HM3:=qq hm3;have HS3:=qq (Arr.grown (w:=w2.drew) HS2.out hg3 (by intro e;have:=Option.some.inj e;omega));have HB3:=qq (Below.grown HB2.out.drew hg3 (by show w.heap.size≤w2.heap.size;omega) (fun k e=>by have:=Option.some.inj e;omega));have hws3:w.heap.size<w3.heap.size:=Nat.lt_of_lt_of_le hws2 hg3.size;clear hm3 hg3))
 obtain⟨M3,hM3⟩:∃M,M=at1 M2 h0 r1:=⟨_,rfl⟩
 rw[←hM3]at HM3
 have HE3:=qq hM3
 clear c0 c4 HM2 HS2 HB2 hM3 hws2
 go_wp2_with fail
 have c0:w3.cell? ⟨b,1,none⟩=some (.int .u64 (bv h1)):=HS3.out.at_ rfl
 have c4:w3.cell? ⟨b,3,none⟩=some (.int .u64 (bv r0)):=HS3.out.at_ rfl
 go_region_held3 (fun w':World=>w'.cell? ⟨b,1,none⟩=some (.int .u64 (bv h1))∧w'.cell? ⟨b,3,none⟩=some (.int .u64 (bv r0)))
  (first
   |exact⟨HS4.out.at_ rfl,HS4.out.at_ rfl⟩
   |go_keep)
  ((go_simp;refine(at1_any _ _ M3 h1 r0 HM3.out.drew).mono ?_;rintro e w4 ⟨⟨v4,rfl⟩,hm4,hg4⟩;have HM4:=qq hm4;have HS4:=qq (Arr.grown (w:=w3.drew) HS3.out hg4 (by intro e;have:=Option.some.inj e;omega));have HB4:=qq (Below.grown HB3.out.drew hg4 (by show w.heap.size≤w3.heap.size;omega) (fun k e=>by have:=Option.some.inj e;omega));have hws4:w.heap.size<w4.heap.size:=Nat.lt_of_lt_of_le hws3 hg4.size;clear hm4 hg4))
 obtain⟨M4,hM4⟩:∃M,M=at1 M3 h1 r0:=⟨_,rfl⟩
 rw[←hM4]at HM4
 have HE4:=qq hM4
 clear c0 c4 HM3 HS3 HB3 hM4 hws3
 go_wp2_with fail
 have c0:w4.cell? ⟨b,1,none⟩=some (.int .u64 (bv h1)):=HS4.out.at_ rfl
 have c4:w4.cell? ⟨b,4,none⟩=some (.int .u64 (bv r1)):=HS4.out.at_ rfl
 go_region_held3 (fun w':World=>w'.cell? ⟨b,1,none⟩=some (.int .u64 (bv h1))∧w'.cell? ⟨b,4,none⟩=some (.int .u64 (bv r1)))
  (first
   |exact⟨HS5.out.at_ rfl,HS5.out.at_ rfl⟩
   |go_keep)
  ((go_simp;refine(at2_any _ _ M4 h1 r1 HM4.out.drew).mono ?_;rintro e w5 ⟨⟨v5,rfl⟩,hm5,hg5⟩;have HM5:=qq hm5;have HS5:=qq (Arr.grown (w:=w4.drew) HS4.out hg5 (by intro e;have:=Option.some.inj e;omega));have HB5:=qq (Below.grown HB4.out.drew hg5 (by show w.heap.size≤w4.heap.size;omega) (fun k e=>by have:=Option.some.inj e;omega));have hws5:w.heap.size<w5.heap.size:=Nat.lt_of_lt_of_le hws4 hg5.size;clear hm5 hg5))
 obtain⟨M5,hM5⟩:∃M,M=at2 M4 h1 r1:=⟨_,rfl⟩
 rw[←hM5]at HM5
 have HE5:=qq hM5
 clear c0 c4 HM4 HS4 HB4 hM5 hws4
 go_wp2_with fail
 have c0:w5.cell? ⟨b,2,none⟩=some (.int .u64 (bv h2)):=HS5.out.at_ rfl
 have c4:w5.cell? ⟨b,3,none⟩=some (.int .u64 (bv r0)):=HS5.out.at_ rfl
 go_region_held3 (fun w':World=>w'.cell? ⟨b,2,none⟩=some (.int .u64 (bv h2))∧w'.cell? ⟨b,3,none⟩=some (.int .u64 (bv r0)))
  (first
   |exact⟨HS6.out.at_ rfl,HS6.out.at_ rfl⟩
   |go_keep)
  ((go_simp;refine(at2_any _ _ M5 h2 r0 HM5.out.drew).mono ?_;rintro e w6 ⟨⟨v6,rfl⟩,hm6,hg6⟩;have HM6:=qq hm6;have HS6:=qq (Arr.grown (w:=w5.drew) HS5.out hg6 (by intro e;have:=Option.some.inj e;omega));have HB6:=qq (Below.grown HB5.out.drew hg6 (by show w.heap.size≤w5.heap.size;omega) (fun k e=>by have:=Option.some.inj e;omega));have hws6:w.heap.size<w6.heap.size:=Nat.lt_of_lt_of_le hws5 hg6.size;clear hm6 hg6))
 obtain⟨M6,hM6⟩:∃M,M=at2 M5 h2 r0:=⟨_,rfl⟩
 rw[←hM6]at HM6
 have HE6:=qq hM6
 clear c0 c4 HM5 HS5 HB5 hM6 hws5
 go_wp2_with fail
 have c2:w6.cell? ⟨b,2,none⟩=some (.int .u64 (bv h2)):=HS6.out.at_ rfl
 have c4:w6.cell? ⟨b,4,none⟩=some (.int .u64 (bv r1)):=HS6.out.at_ rfl
 have cm:w6.cell? ⟨w.heap.size,3,none⟩=some (.int .u64 (bv M6.d)):=HM6.out.at_ rfl
 have fm:=HM6.out.frozen 3
 go_region
 have HE7:=qq (show(prodW h0 h1 h2 r0 r1)={M6 with d:=M6.d+h2*r1} by rw[HE6.out,HE5.out,HE4.out,HE3.out,hM2];rfl)
 obtain⟨M7,hM7⟩:∃M,M=prodW h0 h1 h2 r0 r1:=⟨_,rfl⟩
 have HM7:=qq (show Arr u64v (w6.setCell ⟨w.heap.size,3,none⟩ (.int .u64 (bv (M6.d+h2*r1)))).drew w.heap.size 152 M7.list by rw[hM7,HE7.out];exact(HM6.out.set_ 3 (M6.d+h2*r1)).drew)
 have HS7:=qq (show Arr u64v (w6.setCell ⟨w.heap.size,3,none⟩ (.int .u64 (bv (M6.d+h2*r1)))).drew b 130 [h0,h1,h2,r0,r1]from(HS6.out.far (p:=⟨w.heap.size,3,none⟩) (by show b≠w.heap.size;omega) _).drew)
 have HB7:=qq (show Below w.heap.size w (w6.setCell ⟨w.heap.size,3,none⟩ (.int .u64 (bv (M6.d+h2*r1)))).drew from(HB6.out.setCell (p:=⟨w.heap.size,3,none⟩) (Nat.le_refl _) _).drew)
 have HE:=qq hM7
 clear HM6 HS6 HB6 HE7 HE6 HE5 HE4 HE3 hM2 hM7 c2 c4 cm fm hws6
 generalize(w6.setCell ⟨w.heap.size,3,none⟩ (.int .u64 (bv (M6.d+h2*r1)))).drew=w7 at HM7 HS7 HB7 ⊢
 have hw7:=HM7.out.lt
 have hb7:=HS7.out.lt
 have hbn:b≠w.heap.size:=by omega
 have m0:w7.cell? ⟨w.heap.size,0,none⟩=some (.int .u64 (bv M7.a)):=HM7.out.at_ rfl
 have m1:w7.cell? ⟨w.heap.size,1,none⟩=some (.int .u64 (bv M7.b)):=HM7.out.at_ rfl
 have m2:w7.cell? ⟨w.heap.size,2,none⟩=some (.int .u64 (bv M7.c)):=HM7.out.at_ rfl
 have m3:w7.cell? ⟨w.heap.size,3,none⟩=some (.int .u64 (bv M7.d)):=HM7.out.at_ rfl
 have s0:w7.cell? ⟨b,0,none⟩=some (.int .u64 (bv h0)):=HS7.out.at_ rfl
 have s1:w7.cell? ⟨b,1,none⟩=some (.int .u64 (bv h1)):=HS7.out.at_ rfl
 have s2:w7.cell? ⟨b,2,none⟩=some (.int .u64 (bv h2)):=HS7.out.at_ rfl
 have f0:=HS7.out.frozen 0
 have f1:=HS7.out.frozen 1
 have f2:=HS7.out.frozen 2
 go_wp2_with fail
 obtain⟨E,hE0,hE1⟩:∃E:Nat→BitVec 64×BitVec 64,E 0=(M7.c&&&18446744073709551612#64,M7.d)∧E 1=(M7.c>>>2|||M7.d<<<62,M7.d>>>2):=⟨fun i=>if i=0 then(M7.c&&&18446744073709551612#64,M7.d)else(M7.c>>>2|||M7.d<<<62,M7.d>>>2),rfl,rfl⟩
 obtain⟨H,hH0,hHs⟩:∃H:Nat→BitVec 64×BitVec 64×BitVec 64,H 0=(M7.a,M7.b,M7.c&&&3#64)∧∀i,H (i+1)=addW (H i) (E i).1 (E i).2:=⟨fun i=>Nat.rec (M7.a,M7.b,M7.c&&&3#64) (fun i h=>addW h (E i).1 (E i).2) i,rfl,fun _=>rfl⟩
 have HH2:=qq (show H 2=redW M7 by rw[hHs,hHs,hH0,hE0,hE1];rfl)
 have HH0:=qq hH0
 have HHs:=qq hHs
 have HS8:=qq (show SumA (((w7.setCell ⟨b,0,none⟩ (.int .u64 (bv M7.a))).setCell ⟨b,1,none⟩ (.int .u64 (bv M7.b))).setCell ⟨b,2,none⟩ (.int .u64 (bv (M7.c&&&3#64)))) b (H 0) r0 r1 by rw[hH0];exact((HS7.out.set_ 0 M7.a).set_ 1 M7.b).set_ 2 (M7.c&&&3#64))
 have HG8:=qq (show w.grownBy (((w7.setCell ⟨b,0,none⟩ (.int .u64 (bv M7.a))).setCell ⟨b,1,none⟩ (.int .u64 (bv M7.b))).setCell ⟨b,2,none⟩ (.int .u64 (bv (M7.c&&&3#64)))) (some b)from grownBy_trans (grownBy_trans (grownBy_trans ⟨HB7.out.os,HB7.out.tape,HB7.out.output,HB7.out.size,fun k hk _=>HB7.out.block k hk⟩ (gb_set _ _ _ _) (fun g e=> .inl e)) (gb_set _ _ _ _) (fun g e=> .inl e)) (gb_set _ _ _ _) (fun g e=> .inl e))
 have hz8:(((w7.setCell ⟨b,0,none⟩ (.int .u64 (bv M7.a))).setCell ⟨b,1,none⟩ (.int .u64 (bv M7.b))).setCell ⟨b,2,none⟩ (.int .u64 (bv (M7.c&&&3#64)))).heap.size=w7.heap.size:=by simp
 clear HM7 HS7 HB7 m0 m1 m2 m3 s0 s1 s2 f0 f1 f2
 generalize((w7.setCell ⟨b,0,none⟩ (.int .u64 (bv M7.a))).setCell ⟨b,1,none⟩ (.int .u64 (bv M7.b))).setCell ⟨b,2,none⟩ (.int .u64 (bv (M7.c&&&3#64)))=w8 at HS8 HG8 hz8 ⊢
 obtain⟨X,hX⟩:∃X,X=w7.heap.size+1+1:=⟨_,rfl⟩
 have HA0:=qq (Arr.at_size u64v (w:=(w8.alloc (.cells ([M7.c&&&18446744073709551612#64,M7.d].map u64v).toArray 154)).alloc (.cells ([M7.c>>>2|||M7.d<<<62,M7.d>>>2].map u64v).toArray 154)) 154 [M7.c&&&18446744073709551612#64,M7.d,M7.c>>>2|||M7.d<<<62,M7.d>>>2] (show _=X by rw[World.size_alloc,World.size_alloc,hz8,hX]))
 have HX:=qq (show∀i,i<2→[M7.c&&&18446744073709551612#64,M7.d,M7.c>>>2|||M7.d<<<62,M7.d>>>2][i*2]?=some (E i).1∧[M7.c&&&18446744073709551612#64,M7.d,M7.c>>>2|||M7.d<<<62,M7.d>>>2][i*2+1]?=some (E i).2 from fun i hi=>by
  match i,hi with
  |0,_=>rw[hE0];exact⟨rfl,rfl⟩
  |1,_=>rw[hE1];exact⟨rfl,rfl⟩
  |i+2,h=>omega)
 have hbX:b<X:=by omega
 have hwX:w.heap.size<X:=by omega
 go_loopw [118] (fun iv wr=>∃i:Nat,i≤2∧iv= .int .i64 (i:Int)∧SumA wr b (H i) r0 r1∧Arr u64v wr X 154 [M7.c&&&18446744073709551612#64,M7.d,M7.c>>>2|||M7.d<<<62,M7.d>>>2]∧w.grownBy wr (some b)) (fun iv _=>2-(intOf iv).toNat)
 case atStart=>
  refine⟨0,by omega,rfl,((Arr.alloc HS8.out _).alloc _).alloc _,HA0.out,?_⟩
  exact grownBy_trans (grownBy_trans (grownBy_trans HG8.out (World.grownBy_alloc _ _ none) (fun g e=>by cases e)) (World.grownBy_alloc _ _ none) (fun g e=>by cases e)) (World.grownBy_alloc _ _ none) (fun g e=>by cases e)
 case round=>
  obtain⟨i,hi2,rfl,hs,ha,hg⟩:=hrel
  by_cases hlt2:i<2
  ·obtain⟨hx1,hx2⟩:=HX.out i hlt2
   obtain⟨x,hx⟩:∃x,x=(E i).1:=⟨_,rfl⟩
   obtain⟨y,hy⟩:∃y,y=(E i).2:=⟨_,rfl⟩
   obtain⟨p0,p1,p2,hp⟩:∃p0 p1 p2,H i=(p0,p1,p2):=⟨_,_,_,rfl⟩
   rw[←hx]at hx1
   rw[←hy]at hx2
   have cX:wr.cell? ⟨w7.heap.size+1+1,i*2,none⟩=some (.int .u64 (bv x)):=by rw[←hX];exact ha.at_ hx1
   have cY:wr.cell? ⟨w7.heap.size+1+1,i*2+1,none⟩=some (.int .u64 (bv y)):=by rw[←hX];exact ha.at_ hx2
   have HNx:=qq (show H (i+1)=addW (p0,p1,p2) x y by rw[HHs.out,hp,hx,hy])
   rw[hp]at hs
   have HSr:=qq hs
   have HAr:=qq ha
   have HGr:=qq hg
   have hzr:=hg.size
   have hXr:=ha.lt
   have hbr:b<wr.heap.size:=by omega
   have s0:wr.cell? ⟨b,0,none⟩=some (.int .u64 (bv p0)):=hs.at_ rfl
   have s1:wr.cell? ⟨b,1,none⟩=some (.int .u64 (bv p1)):=hs.at_ rfl
   have s2:wr.cell? ⟨b,2,none⟩=some (.int .u64 (bv p2)):=hs.at_ rfl
   have f0:=hs.frozen 0
   have f1:=hs.frozen 1
   have f2:=hs.frozen 2
   have hli:(i:Int)<2:=by omega
   have k1:(cy p0 x 0#64).toNat≤1:=cy_le _ _ _ (by simp)
   clear hx1 hx2 hx hy hp hs ha hg
   go_wp2_with fail
   go_region
   go_wp2_with fail
   go_region
   go_wp2_with fail
   go_region
   go_wp2_with fail
   refine⟨⟨i+1,by omega,by simp,?_,?_,?_⟩,by simp[intOf];omega⟩
   ·rw[HNx.out]
    exact Arr.alloc (((HSr.out.set_ 0 (ad p0 x 0#64)).set_ 1 (ad p1 y (cy p0 x 0#64))).set_ 2 (p2+cy p1 y (cy p0 x 0#64))) _
   ·exact Arr.alloc (((HAr.out.far (p:=⟨b,0,none⟩) (by show X≠b;omega) _).far (p:=⟨b,1,none⟩) (by show X≠b;omega) _).far (p:=⟨b,2,none⟩) (by show X≠b;omega) _) _
   ·have h:=grownBy_trans (r:=some b) (s:=none) (grownBy_trans (grownBy_trans (grownBy_trans HGr.out (gb_set wr b 0 (.int .u64 (bv (ad p0 x 0#64)))) (fun g e=> .inl e)) (gb_set _ b 1 (.int .u64 (bv (ad p1 y (cy p0 x 0#64))))) (fun g e=> .inl e)) (gb_set _ b 2 (.int .u64 (bv (p2+cy p1 y (cy p0 x 0#64))))) (fun g e=> .inl e)) (World.grownBy_alloc _ (.cells #[.int .u64 (bv x),.int .u64 (bv y)] 154) none) (fun g e=>by cases e)
    exact⟨h.os,h.tape,h.output,h.size,h.block⟩
  ·obtain rfl:i=2:=by omega
   go_wp2_with fail
   go_end0
   rw[HH2.out,HE.out]at hs
   exact⟨⟨_,rfl⟩,hs,hg⟩
end Go.Proofs.YtelgjaiknaalkaaDoor
