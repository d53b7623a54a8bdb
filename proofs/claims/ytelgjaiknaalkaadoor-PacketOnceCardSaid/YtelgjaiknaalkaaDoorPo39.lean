/- Lemmas, joined and made smaller by a program. -/
import Derived.Test.YtelgjaiknaalkaaDoorPo38
import Derived.Test.YtelgjaiknaalkaaDoorPo18
set_option linter.unusedVariables false
set_option linter.unusedSimpArgs false
namespace Go.Proofs.YtelgjaiknaalkaaDoor
open Go.RowKit
set_option maxRecDepth 100000
def sec2(e:Nat):List (BitVec 8):=BitVec.ofNat 8 e::1#8::List.replicate 30 0#8
theorem sec2_len(e:Nat):(sec2 e).length=32:=by simp[sec2]
def zO(e:Nat):List (BitVec 8):=leafS 4 0 (sec2 e)
theorem zO_len(e:Nat):(zO e).length=32:=leafS_len _ _ _ (sec2_len e)
def lsO(e:Nat)(l:LineM):List LineM:=(newLs 4 (sec2 e)).set 0 l
def emO(lf e:Nat)(l:LineM):EM:=⟨(e:Int),lf,lsO e l⟩
def bxO(E lf:Nat)(L:Nat→LineM):BM:=⟨exG 5#8,((List.range E).drop (E-4)).map fun k=>emO lf k (L k),false⟩
def bO(E lf:Nat)(L:Nat→LineM):BM:=if E=0 then emptyM else bxO E lf L
def updL(L:Nat→LineM)(e:Nat)(l:LineM):Nat→LineM:=fun k=>if k=e then l else L k
theorem updL_same(L:Nat→LineM)(e:Nat)(l:LineM):updL L e l e=l:=by simp[updL]
theorem updL_other(L:Nat→LineM){e k:Nat}(l:LineM)(h:k≠e):updL L e l k=L k:=by simp[updL,h]
theorem bO_lastNo{E lf:Nat}(L:Nat→LineM)(hE:E<6):lastNo (bO E lf L).es=(E:Int)-1:=by
 obtain rfl|rfl|rfl|rfl|rfl|rfl:E=0∨E=1∨E=2∨E=3∨E=4∨E=5:=by omega
 all_goals rfl
theorem bO_clr{E lf:Nat}(L:Nat→LineM):(bO E lf L).clr=false:=by unfold bO;split<;>rfl
theorem bO_grp{E lf:Nat}(L:Nat→LineM)(h:(bO E lf L).es≠ []):(bO E lf L).grp=exG 5#8:=by
 unfold bO at h ⊢
 split
 ·rename_i h0;rw[if_pos h0]at h;exact absurd rfl h
 ·rfl
theorem bO_enter{E lf:Nat}(L:Nat→LineM)(hE:E<6)(hlf:lf<4):
 enterE (bO E lf L) (exG 5#8) (E:Int) 4 (lf:Int)=0∧enterM (bO E lf L) (exG 5#8) (E:Int) 4 (lf:Int) (sec2 E)=bO (E+1) lf (updL L E (startL (zO E))):=by
 have h:enterE (bO E lf L) (exG 5#8) (E:Int) 4 (lf:Int)=0:=by
  have hs:soundB 4=true:=rfl
  unfold enterE
  rw[if_neg (by rw[bO_clr];decide),if_neg (by rw[hs];simp;omega),if_neg (by omega),if_neg]
  rintro⟨h0,h1|h1⟩
  ·exact h1 (bO_grp L h0).symm
  ·rw[bO_lastNo L hE]at h1;omega
 refine⟨h,?_⟩
 unfold enterM
 rw[if_pos h]
 obtain rfl|rfl|rfl|rfl|rfl|rfl:E=0∨E=1∨E=2∨E=3∨E=4∨E=5:=by omega
 all_goals rfl
theorem bO_length{E lf:Nat}(L:Nat→LineM)(hE:E≤6):(bO E lf L).es.length=min E 4:=by
 obtain rfl|rfl|rfl|rfl|rfl|rfl|rfl:E=0∨E=1∨E=2∨E=3∨E=4∨E=5∨E=6:=by omega
 all_goals rfl
theorem bO_len{E lf:Nat}(L:Nat→LineM)(hE:E≤6):(bO E lf L).es.length≤4:=by rw[bO_length L hE];omega
def slO(e n:Nat):List (BitVec 8):=sealV (ofL (linkAt (zO e) n) (n:Int)).key (ofL (linkAt (zO e) n) (n:Int)).nonce (ctxV (exG 5#8) (e:Int) 0 (n:Int)) [BitVec.ofNat 8 e,BitVec.ofNat 8 n]
def pkO(e n:Nat):PM:=⟨exG 5#8,(e:Int),0,(n:Int),slO e n⟩
theorem slO_open(e n:Nat):openBad (ofL (linkAt (zO e) n) (n:Int)).key (ofL (linkAt (zO e) n) (n:Int)).nonce (ctxV (exG 5#8) (e:Int) 0 (n:Int)) (slO e n)=0∧
 openV (ofL (linkAt (zO e) n) (n:Int)).key (ofL (linkAt (zO e) n) (n:Int)).nonce (ctxV (exG 5#8) (e:Int) 0 (n:Int)) (slO e n)=[BitVec.ofNat 8 e,BitVec.ofNat 8 n]∧(slO e n).length=18:=by
 have hs:sealBad (ofL (linkAt (zO e) n) (n:Int)).nonce.length (ctxV (exG 5#8) (e:Int) 0 (n:Int)).length [BitVec.ofNat 8 e,BitVec.ofNat 8 n].length=0:=by
  rw[ofL_nonce,ctxV_len (exG_len _)];rfl
 obtain⟨h1,h2⟩:=open_seal (ofL (linkAt (zO e) n) (n:Int)).key (ofL (linkAt (zO e) n) (n:Int)).nonce (ctxV (exG 5#8) (e:Int) 0 (n:Int)) [BitVec.ofNat 8 e,BitVec.ofNat 8 n] hs
 exact⟨h1,h2,sealV_len _ _ _ _ hs⟩
theorem bO_last{E lf:Nat}(L:Nat→LineM)(hE:E<6):lastNo (bO (E+1) lf L).es=(E:Int)∧lastLeaf (bO (E+1) lf L).es=lf∧(bO (E+1) lf L).grp=exG 5#8:=by
 obtain rfl|rfl|rfl|rfl|rfl|rfl:E=0∨E=1∨E=2∨E=3∨E=4∨E=5:=by omega
 all_goals exact⟨rfl,rfl,rfl⟩
theorem bO_lastLine{E:Nat}(L:Nat→LineM)(hE:E<6):lastLine (bO (E+1) 0 L).es=some (L E):=by
 obtain rfl|rfl|rfl|rfl|rfl|rfl:E=0∨E=1∨E=2∨E=3∨E=4∨E=5:=by omega
 all_goals rfl
theorem bO_setLast{E:Nat}(L:Nat→LineM)(hE:E<6)(l:LineM):(⟨(bO (E+1) 0 L).grp,setLine (bO (E+1) 0 L).es ((bO (E+1) 0 L).es.length-1) (lastLeaf (bO (E+1) 0 L).es) l,(bO (E+1) 0 L).clr⟩:BM)=bO (E+1) 0 (updL L E l):=by
 obtain rfl|rfl|rfl|rfl|rfl|rfl:E=0∨E=1∨E=2∨E=3∨E=4∨E=5:=by omega
 all_goals rfl
theorem bO_seal{E n:Nat}(L:Nat→LineM)(hE:E<6)(hn:n≤8)(hL:L E=lineJ (zO E) n):
 sealE (bO (E+1) 0 L) 2=0∧sealP (bO (E+1) 0 L) [BitVec.ofNat 8 E,BitVec.ofNat 8 n]=pkO E n∧sealM (bO (E+1) 0 L) 2=bO (E+1) 0 (updL L E (lineJ (zO E) (n+1))):=by
 have hl:=bO_lastLine L hE
 rw[hL]at hl
 have ht:=lineJ_takeE (zO E) n (by omega)
 have hp:(lineJ (zO E) n).place=(n:Int):=rfl
 obtain⟨h1,h2,h3⟩:=bO_last (lf:=0) L hE
 refine⟨sealE_ok hl (by decide) (by rw[hp];exact ht),?_,?_⟩
 ·rw[sealP_ok hl (by simp) (by rw[hp];exact ht),h1,h2,h3,hp,lineJ_takeO _ _ (by omega)]
  unfold pkO slO
  rfl
 ·rw[sealM_ok hl (by decide) (by rw[hp];exact ht),hp,lineJ_takeL]
  exact bO_setLast L hE _
structure LinO(e:Nat)(l:LineM):Prop where
 of:OfZ (zO e) l
 ok:LOK l
 pl:l.place≤8
theorem LinO.start(e:Nat):LinO e (startL (zO e)):=⟨OfZ.start _,startL_ok _ (zO_len e),by show(0:Int)≤8;decide⟩
theorem LinO.asked{e n:Nat}{l:LineM}(h:LinO e l)(hn:n<8)(ha:(n:Int)∈l.asked):takeE l (n:Int)=7:=by
 have hh:=h.ok.hi
 have hp:=h.pl
 have h0:=h.of.low
 unfold takeE
 rw[if_neg (by omega),if_neg (by rw[hh];omega),if_neg (by rw[h0];omega),if_pos ha]
theorem LinO.free{e n:Nat}{l:LineM}(h:LinO e l)(hn:n<8)(ha:(n:Int)∉l.asked):takeE l (n:Int)=0∧takeO l (n:Int)=ofL (linkAt (zO e) n) (n:Int)∧LinO e (takeL l (n:Int))∧(takeL l (n:Int)).asked=l.asked++ [(n:Int)]:=by
 have hh:=h.ok.hi
 have hp:=h.pl
 have h0:=h.of.low
 have hlp:=h.ok.lowp
 have ht:takeE l (n:Int)=0:=by
  unfold takeE
  rw[if_neg (by omega),if_neg (by rw[hh];omega),if_neg (by rw[h0];omega),if_neg ha,if_neg (by omega)]
 refine⟨ht,?_,⟨h.of.takeL h.ok ht,takeL_ok h.ok ht,?_⟩,rfl⟩
 ·have:=h.of.takeO h.ok ht
  rwa[Int.toNat_natCast]at this
 ·rw[takeL_place];split<;>omega
theorem find6(es:List EM)(e:Nat)(h:∀x∈es,x.no≠(e:Int)):findE es (e:Int)=none:=by
 unfold findE
 rw[List.findIdx?_eq_none_iff]
 intro x hx
 simpa using h x hx
theorem pkO_len(e n:Nat):(pkO e n).sl.length=18:=by
 have h:=(slO_open e n).2.2
 unfold pkO
 dsimp only
 exact h
theorem pkO_bad{e n:Nat}(he:e<6)(hn:n<8):pkBad (pkO e n).ep (pkO e n).fr (pkO e n).nu (pkO e n).sl.length=false:=by
 rw[pkO_len]
 unfold pkBad pkO
 dsimp only
 obtain rfl|rfl|rfl|rfl|rfl|rfl:e=0∨e=1∨e=2∨e=3∨e=4∨e=5:=by omega
 all_goals(obtain rfl|rfl|rfl|rfl|rfl|rfl|rfl|rfl:n=0∨n=1∨n=2∨n=3∨n=4∨n=5∨n=6∨n=7:=by omega)<;>rfl
theorem bO_ne{E lf:Nat}(L:Nat→LineM)(h0:0<E)(hE:E≤6):(bO E lf L).es≠ []:=by
 intro h
 have h1:=congrArg List.length h
 rw[bO_length L hE,List.length_nil]at h1
 omega
theorem bO_old{E e n lf:Nat}(L:Nat→LineM)(hE:E≤6)(he:e+4<E)(hn:n<8):openE (bO E lf L) (pkO e n)=6:=by
 have hf:findE (bO E lf L).es (pkO e n).ep=none:=find6 _ e (by
  unfold bO
  rw[if_neg (by omega)]
  intro x hx
  obtain⟨k,hk,rfl⟩:=List.mem_map.1 hx
  have h2:E-4≤k:=by
   obtain⟨i,hi,h3⟩:=List.mem_drop_iff_getElem.1 hk
   rw[List.getElem_range]at h3
   omega
  show(k:Int)≠(e:Int)
  omega)
 unfold openE
 rw[if_neg (bO_ne L (by omega) hE),if_neg (by rw[pkO_bad (by omega) hn];decide),if_neg (by rw[pkO_len];decide),hf]
theorem bO_at{E e lf:Nat}(L:Nat→LineM)(hE:E≤6)(he:e<E)(ho:E≤e+4):
 findE (bO E lf L).es (e:Int)=some (e-(E-4))∧lineAt (bO E lf L).es (e-(E-4)) 0=some (L e)∧leafAt (bO E lf L).es (e-(E-4))=lf∧(bO E lf L).grp=exG 5#8∧
  ∀l,(⟨(bO E lf L).grp,setLine (bO E lf L).es (e-(E-4)) 0 l,(bO E lf L).clr⟩:BM)=bO E lf (updL L e l):=by
 obtain rfl|rfl|rfl|rfl|rfl|rfl:E=1∨E=2∨E=3∨E=4∨E=5∨E=6:=by omega
 ·obtain rfl:e=0:=by omega
  exact⟨rfl,rfl,rfl,rfl,fun l=>rfl⟩
 ·obtain rfl|rfl:e=0∨e=1:=by omega
  all_goals exact⟨rfl,rfl,rfl,rfl,fun l=>rfl⟩
 ·obtain rfl|rfl|rfl:e=0∨e=1∨e=2:=by omega
  all_goals exact⟨rfl,rfl,rfl,rfl,fun l=>rfl⟩
 ·obtain rfl|rfl|rfl|rfl:e=0∨e=1∨e=2∨e=3:=by omega
  all_goals exact⟨rfl,rfl,rfl,rfl,fun l=>rfl⟩
 ·obtain rfl|rfl|rfl|rfl:e=1∨e=2∨e=3∨e=4:=by omega
  all_goals exact⟨rfl,rfl,rfl,rfl,fun l=>rfl⟩
 ·obtain rfl|rfl|rfl|rfl:e=2∨e=3∨e=4∨e=5:=by omega
  all_goals exact⟨rfl,rfl,rfl,rfl,fun l=>rfl⟩
theorem bO_open{E e n:Nat}(L:Nat→LineM)(hE:E≤6)(he:e<E)(ho:E≤e+4)(hn:n<8):
 openE (bO E 3 L) (pkO e n)=if takeE (L e) (n:Int)≠0 then takeE (L e) (n:Int)else openBad (takeO (L e) (n:Int)).key (takeO (L e) (n:Int)).nonce (ctxV (exG 5#8) (e:Int) 0 (n:Int)) (slO e n):=by
 obtain⟨h1,h2,h3,h4,-⟩:=bO_at (lf:=3) L hE he ho
 have h:=openE_at (p:=pkO e n) (bO_ne L (by omega) hE) (pkO_bad (by omega) hn) (by rw[pkO_len];decide) h1 h4.symm (by rw[h3];show(0:Int)≠3;decide) h2
 unfold pkO at h ⊢
 dsimp only at h ⊢
 exact h
theorem bO_again{E e n:Nat}(L:Nat→LineM)(hE:E≤6)(he:e<E)(ho:E≤e+4)(hn:n<8)(hl:LinO e (L e))(ha:(n:Int)∈ (L e).asked):openE (bO E 3 L) (pkO e n)=7:=by
 rw[bO_open L hE he ho hn,hl.asked hn ha];rfl
theorem bO_ok{E e n:Nat}(L:Nat→LineM)(hE:E≤6)(he:e<E)(ho:E≤e+4)(hn:n<8)(hl:LinO e (L e))(ha:(n:Int)∉ (L e).asked):
 openE (bO E 3 L) (pkO e n)=0∧openT (bO E 3 L) (pkO e n)=[BitVec.ofNat 8 e,BitVec.ofNat 8 n]∧openM (bO E 3 L) (pkO e n)=bO E 3 (updL L e (takeL (L e) (n:Int))):=by
 obtain⟨t0,tO,-,-⟩:=hl.free hn ha
 obtain⟨s1,s2,-⟩:=slO_open e n
 obtain⟨h1,h2,h3,h4,h5⟩:=bO_at (lf:=3) L hE he ho
 have h0:openE (bO E 3 L) (pkO e n)=0:=by rw[bO_open L hE he ho hn,t0,tO,if_neg (by decide)];exact s1
 have hp:=pkLine_at (b:=bO E 3 L) (p:=pkO e n) h1 h2
 refine⟨h0,?_,?_⟩
 ·rw[openT_at hp h0]
  unfold pkO
  dsimp only
  rw[tO];exact s2
 ·rw[openM_at hp h0];exact h5 _
theorem bO_member{E n:Nat}(L:Nat→LineM)(h0:0<E)(hE:E≤6)(hn:n<8):openE (bO E 0 L) (pkO (E-1) n)=9:=by
 obtain⟨h1,h2,h3,h4,-⟩:=bO_at (lf:=0) (e:=E-1) L hE (by omega) (by omega)
 unfold openE
 rw[if_neg (bO_ne L h0 hE),if_neg (by rw[pkO_bad (by omega) hn];decide),if_neg (by rw[pkO_len];decide),show(pkO (E-1) n).ep=((E-1:Nat):Int)from rfl,h1]
 dsimp only
 rw[if_neg (by rw[h4];simp[pkO]),if_pos (by rw[h3];rfl)]
theorem updL_start(E:Nat):updL (fun k=>startL (zO k)) E (startL (zO E))=fun k=>startL (zO k):=by
 funext k
 unfold updL
 split
 ·rename_i h;rw[h]
 ·rfl
end Go.Proofs.YtelgjaiknaalkaaDoor
namespace Go.Proofs.YtelgjaiknaalkaaDoor
open Go.RowKit
structure SP where
 p:PM
 A:Option Addr
 c:Nat
def SP.cells(s:SP):List Value:=packetC s.p.grp s.p.ep s.p.fr s.p.nu s.A s.p.sl.length s.c
structure SentAt(w:World)(base top:Nat)(S:List Nat)(v:Value)(ss:List SP):Prop where
 row:w.ownsRow base 35 36 v ss.length (ss.flatMap SP.cells)
 glen:∀s∈ss,s.p.grp.length=32
 rd:∀s∈ss,Rd b8 w top s.A s.p.sl
 cap:∀s∈ss,s.p.sl.length≤s.c
 tle:top≤w.heap.size
 off:∀s∈ss,∀bt o,s.A=some ⟨bt,o,none⟩→bt∉S∧bt<top∧v.ownBlock≠some bt
 own:∀g,v.ownBlock=some g→g∉S
section
variable{w w':World}{base top:Nat}{S S' T:List Nat}{v v':Value}{ss:List SP}
theorem SP.len{s:SP}(h:s.p.grp.length=32):s.cells.length=36:=pkC_len h _ _ _ _ _ _
theorem SentAt.frm(h:SentAt w base top S v ss)(f:Frm w w' T)(hT:∀k∈T,k∈S)(hS:∀k∈S',k∈S∨w.heap.size≤k):SentAt w' base top S' v ss:=
 ⟨row_same h.row (fun g hg=>f.block g (row_in h.row hg).2.1 (fun hm=>h.own g hg (hT g hm))),h.glen,
  fun s hs=>rd_frm (h.rd s hs) h.tle f (fun bt o e hm=>(h.off s hs bt o e).1 (hT bt hm)),h.cap,Nat.le_trans h.tle f.size,
  fun s hs bt o e=>⟨fun hm=>by
   obtain⟨h1,h2,-⟩:=h.off s hs bt o e
   rcases hS bt hm with h3|h3
   ·exact h1 h3
   ·have:=h.tle;omega,(h.off s hs bt o e).2⟩,
  fun g hg hm=>by
   rcases hS g hm with h3|h3
   ·exact h.own g hg h3
   ·have:=(row_in h.row hg).2.1;omega⟩
theorem SentAt.below(h:SentAt w base top S v ss)(hb:Below w.heap.size w w'):SentAt w' base top S v ss:=
 h.frm ((Frm.refl w []).below hb (Nat.le_refl _)) (fun k hk=>by cases hk) (fun k hk=> .inl hk)
theorem SentAt.push(h:SentAt w base top S v ss){s:SP}{top':Nat}(ht:top≤top')(ht':top'≤w.heap.size)(hgl:s.p.grp.length=32)(hr:Rd b8 w top' s.A s.p.sl)(hc:s.p.sl.length≤s.c)
 (ho:∀bt o,s.A=some ⟨bt,o,none⟩→bt∉S∧bt<top'∧v.ownBlock≠some bt)(hS:∀k∈S,k<w.heap.size)(hrow:w'.ownsRow base 35 36 v' (ss.length+1) (ss.flatMap SP.cells++s.cells))(hg:Grew w w' v v'):
 SentAt w' base top' S v' (ss++ [s]):=by
 have hby:=hg.by_
 have hv':∀g,v'.ownBlock=some g→v.ownBlock=some g∨g=w.heap.size:=fun g hgv=>by
  rcases hg.at_ with h1|h1
  ·exact .inl (by rw[←h1];exact hgv)
  ·rw[h1]at hgv;injection hgv with hgv;exact .inr hgv.symm
 have keep:∀(A:Option Addr) (xs:List (BitVec 8)),Rd b8 w top' A xs→(∀bt o,A=some ⟨bt,o,none⟩→v.ownBlock≠some bt)→Rd b8 w' top' A xs:=fun A xs hr hn hx=>by
  obtain⟨b,o,e,hlt,hcx⟩:=hr hx
  exact⟨b,o,e,hlt,fun j u hu=>by rw[←hcx j u hu];exact World.cell?_of_block (hby.block b (by omega) (fun e2=>hn b o e e2.symm))⟩
 refine⟨?_,fun x hx=>?_,fun x hx=>?_,fun x hx=>?_,Nat.le_trans ht' hby.size,fun x hx bt o e=>?_,fun g hgv hm=>?_⟩
 ·rw[List.length_append,List.flatMap_append,List.length_singleton,show[s].flatMap SP.cells=s.cells by simp]
  exact hrow
 ·rcases List.mem_append.1 hx with h1|h1
  ·exact h.glen x h1
  ·rw[List.mem_singleton]at h1;subst h1;exact hgl
 ·rcases List.mem_append.1 hx with h1|h1
  ·exact keep _ _ ((h.rd x h1).more ht) (fun bt o e=>(h.off x h1 bt o e).2.2)
  ·rw[List.mem_singleton]at h1;subst h1;exact keep _ _ hr (fun bt o e=>(ho bt o e).2.2)
 ·rcases List.mem_append.1 hx with h1|h1
  ·exact h.cap x h1
  ·rw[List.mem_singleton]at h1;subst h1;exact hc
 ·have h2:bt∉S∧bt<top'∧v.ownBlock≠some bt:=by
   rcases List.mem_append.1 hx with h1|h1
   ·obtain⟨a1,a2,a3⟩:=h.off x h1 bt o e
    exact⟨a1,by omega,a3⟩
   ·rw[List.mem_singleton]at h1;subst h1;exact ho bt o e
  refine⟨h2.1,h2.2.1,fun e2=>?_⟩
  rcases hv' bt e2 with h3|h3
  ·exact h2.2.2 h3
  ·have:=h2.2.1;omega
 ·rcases hv' g hgv with h3|h3
  ·exact h.own g h3 hm
  ·have:=hS g hm;omega
theorem SentAt.elem(h:SentAt w base top S v ss){k:Nat}{s:SP}(hk:ss[k]?=some s):∃g c,v= .slice (some ⟨g,0,none⟩) ss.length c∧base≤g∧g<w.heap.size∧ss.length≤c∧w.rangeAt g (36*k) s.cells:=by
 have hlt:=(List.getElem?_eq_some_iff.1 hk).1
 rcases h.row.2 with⟨-,h0⟩|⟨g,cap,cur,hv,hbg,hg,hnc,-⟩
 ·omega
 ·refine⟨g,cap,hv,hbg,?_,hnc,fun j u hu=>?_⟩
  ·exact(row_in h.row (by rw[hv];rfl)).2.1
  ·have h1:=rflat_at (f:=SP.cells) (K:=36) (fun x hx=>SP.len (h.glen x hx)) hk j u hu
   have h2:=World.ownsRow.cells (g:=g) h.row (by rw[hv];rfl) _ _ h1
   rw[Addr.add_lit]at h2
   simpa using h2
end
structure OnceAt(w wr:World)(gA gB top:Nat)(a b:BX)(v:Value)(ss:List SP):Prop where
 two:TwoAt wr w.heap.size gA gB a b
 sent:SentAt wr w.heap.size top (BX.foot gA a++BX.foot gB b) v ss
 bl:Below w.heap.size w wr
section
variable{w wr w':World}{gA gB top:Nat}{a b a' b':BX}{v v':Value}{ss:List SP}
theorem OnceAt.below(h:OnceAt w wr gA gB top a b v ss)(hb:Below wr.heap.size wr w'):OnceAt w w' gA gB top a b v ss:=
 ⟨h.two.below hb,h.sent.below hb,h.bl.trans (hb.mono h.bl.size)⟩
theorem OnceAt.left(h:OnceAt w wr gA gB top a b v ss)(s:BStep wr w' w.heap.size gA a a'):OnceAt w w' gA gB top a' b v ss:=
 ⟨h.two.left s,h.sent.frm s.frm (fun k hk=>List.mem_append_left _ hk) (fun k hk=>by
  rcases List.mem_append.1 hk with h1|h1
  ·rcases s.foot k h1 with h2|h2
   ·exact .inl (List.mem_append_left _ h2)
   ·exact .inr h2
  ·exact .inl (List.mem_append_right _ h1)),s.toBelow h.two.l h.bl⟩
theorem OnceAt.right(h:OnceAt w wr gA gB top a b v ss)(s:BStep wr w' w.heap.size gB b b'):OnceAt w w' gA gB top a b' v ss:=
 ⟨h.two.right s,h.sent.frm s.frm (fun k hk=>List.mem_append_right _ hk) (fun k hk=>by
  rcases List.mem_append.1 hk with h1|h1
  ·exact .inl (List.mem_append_left _ h1)
  ·rcases s.foot k h1 with h2|h2
   ·exact .inl (List.mem_append_right _ h2)
   ·exact .inr h2),s.toBelow h.two.r h.bl⟩
theorem OnceAt.feet(h:OnceAt w wr gA gB top a b v ss):∀k∈BX.foot gA a++BX.foot gB b,k<wr.heap.size:=fun k hk=>by
 rcases List.mem_append.1 hk with h1|h1
 ·exact(h.two.l.foot_lt k h1).2
 ·exact(h.two.r.foot_lt k h1).2
theorem OnceAt.push(h:OnceAt w wr gA gB top a b v ss){s:SP}{top':Nat}(ht:top≤top')(ht':top'≤wr.heap.size)(hgl:s.p.grp.length=32)(hr:Rd b8 wr top' s.A s.p.sl)(hc:s.p.sl.length≤s.c)
 (ho:∀bt o,s.A=some ⟨bt,o,none⟩→bt∉BX.foot gA a∧bt∉BX.foot gB b∧bt<top'∧v.ownBlock≠some bt)(hrow:w'.ownsRow w.heap.size 35 36 v' (ss.length+1) (ss.flatMap SP.cells++s.cells))(hg:Grew wr w' v v'):
 OnceAt w w' gA gB top' a b v' (ss++ [s]):=by
 have hby:=hg.by_
 have hn:∀k∈BX.foot gA a++BX.foot gB b,v.ownBlock≠some k:=fun k hk e=>h.sent.own k e hk
 refine⟨h.two.of_same (fun k hk=>?_),h.sent.push ht ht' hgl hr hc (fun bt o e=>?_) h.feet hrow hg,rowS_bel hg h.sent.row h.bl.size (Nat.le_refl _) h.bl⟩
 ·have hk':k∈BX.foot gA a++BX.foot gB b:=List.mem_append.2 hk
  exact hby.block k (h.feet k hk') (fun e=>hn k hk' e.symm)
 ·obtain⟨h1,h2,h3,h4⟩:=ho bt o e
  exact⟨fun hm=>(List.mem_append.1 hm).elim h1 h2,h3,h4⟩
theorem OnceAt.turn(h:OnceAt w wr gA gB top a b v ss){g:Nat}(hg:wr.grownBy w' (some g))(h1:g∉BX.foot gA a)(h2:g∉BX.foot gB b)(h3:top≤g)(h4:v.ownBlock≠some g)(h5:w.heap.size≤g):OnceAt w w' gA gB top a b v ss:=by
 have hf:Frm wr w' [g]:=⟨hg.os,hg.tape,hg.output,hg.size,fun k hk hn=>hg.block k hk (fun e=>hn (by injection e with e;simp[e]))⟩
 have hS:g∉BX.foot gA a++BX.foot gB b:=fun hm=>(List.mem_append.1 hm).elim h1 h2
 refine⟨h.two.of_same (fun k hk=>hg.block k (h.feet k (List.mem_append.2 hk)) (fun e=>?_)),⟨row_same h.sent.row (fun x hx=>hg.block x (row_in h.sent.row hx).2.1 (fun e=>?_)),h.sent.glen,fun s hs=>rd_frm (h.sent.rd s hs) h.sent.tle hf (fun bt o e hm=>?_),h.sent.cap,Nat.le_trans h.sent.tle hg.size,h.sent.off,h.sent.own⟩,
  h.bl.grown hg h.bl.size (fun k e=>by cases e;exact h5)⟩
 ·injection e with e;subst e;exact hS (List.mem_append.2 hk)
 ·injection e with e;subst e;exact h4 hx
 ·have:=(h.sent.off s hs bt o e).2.1
  simp at hm;omega
end
end Go.Proofs.YtelgjaiknaalkaaDoor
