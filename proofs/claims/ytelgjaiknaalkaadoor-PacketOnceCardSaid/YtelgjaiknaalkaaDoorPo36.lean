/- Lemmas, joined and made smaller by a program. -/
import Derived.Test.YtelgjaiknaalkaaDoorPo18
import Derived.Deep.RegionLaw
set_option linter.unusedVariables false
set_option linter.unusedSimpArgs false
namespace Go.Proofs.YtelgjaiknaalkaaDoor
open Go.RowKit
theorem step_box_slice{P:Program}{ops:Array Oper}{o:Oper}{a:Act}{w:World}{Kt:Act→World→Prop}{Q:Exit→Act→World→Prop}{F:Prop}(hg:o.guard=none)(t e:TypeId)(x:Operand)(ho:o.op= .buildSlice t 1 #[(0,x)])
 (ie:TypeInfo)(z:Value)(K:Nat)(cells:Array Value)(hx:a.eval x= .agg cells)(hK:cells.size=K)(hK0:0<K)(hKs:K≤1000)
 (hu:P.underlying t=some (.slice e))(hie:P.info? e=some ie)(hz:ie.zero=some z)(hsz:ie.size=K)(hzs:z.cells.size=K)
 (h:Kt (a.put o.dst (.slice (some ⟨w.heap.size,0,none⟩) 1 1)) (w.alloc (.cells cells e))):if Region.wanted o (yielded ops a.tmps)=true then Oper.wp P o a w Kt Q else F:=by
 have hw:Region.wanted o (yielded ops a.tmps)=true:=by simp[Region.wanted,hg]
 rw[if_pos hw]
 refine wp_buildSlice t e 1 #[(0,x)] ho cells ie z hu hie hz (by rw[hsz];omega) (by rw[hsz];omega) ?_ h
 rw[hsz]
 rw[show(#[(0,x)].map fun(i,x)=>(i,a.eval x)).toList=[(0,.agg cells)] by simp[hx]]
 exact fill_one hK0 (.agg cells) hK _ (by simp)
theorem step_append_row{P:Program}{w:World}{ops:Array Oper}{o:Oper}{a:Act}{Kt:Act→World→Prop}{Q:Exit→Act→World→Prop}{F:Prop}(hgd:o.guard=none)(s x:Operand)(t:TypeId)
 (ho:o.op= .call {callee:= .builtin .append,args:= #[s,x],argTypes:= #[t,t]})
 (K:Nat)(hK:0<K)(base:Nat)(e:TypeId)(i:TypeInfo)(z:Value)(bytes:Nat)(ht:P.underlying t=some (.slice e))(hi:P.info? e=some i)(hz:i.zero=some z)
 (hsize:i.size=K)(hby:i.bytes=bytes)(hzs:z.cells.size=K)
 (v:Value)(n:Nat)(us:List Value)(hs:a.eval s=v)(hown:w.ownsRow base e K v n us)
 (B:Nat)(A:Option Addr)(m c:Nat)(news:List Value)(hx:a.eval x= .slice A m c)(hl:news.length=m*K)(hm:0<m)(hr:RdV w B A news)(h1:∀u∈news,u.oneCell'=true)
 (h63:n+m≤maxLen)(hbytes:(n+m)*bytes≤140737488355328)(hbase:base≤w.heap.size)
 (h:∀v' w',w'.ownsRow base e K v' (n+m) (us++news)→Grew w w' v v'→(∀C w0,C≤base→Below C w0 w→Below C w0 w')→Kt (a.put o.dst v') w'):
 if Region.wanted o (yielded ops a.tmps)=true then Oper.wp P o a w Kt Q else F:=by
 have hw:Region.wanted o (yielded ops a.tmps)=true:=by simp[Region.wanted,hgd]
 rw[if_pos hw]
 obtain⟨v',w',hrun,h2,h3⟩:=run_append_row (P:=P) K hK base t o.type e i z bytes ht hi hz hsize hby hzs v n us hown B A m c news hl hm hr h1 h63 hbytes hbase
 unfold Oper.wp execOp
 simp only[ho,resolve,invoke,builtin,Sem.run_bind,Sem.run_pure,Result.andThen_ok,List.map_toArray,List.map_cons,List.map_nil,hs,hx,hrun]
 exact h v' w' h2 h3 (fun C w0 hC hb=>rowS_bel h3 hown hbase hC hb)
end Go.Proofs.YtelgjaiknaalkaaDoor
