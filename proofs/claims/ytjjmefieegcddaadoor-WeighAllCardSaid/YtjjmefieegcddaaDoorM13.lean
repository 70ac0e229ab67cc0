/- A part of the proof: W77, W78, S26, W81, S27, S28, Q8, W84, W43, W44, W45, W46, W47, W48, W49, W50, W51, W52. -/
import Derived.Test.YtjjmefieegcddaaDoorM12
import Derived.Test.YtjjmefieegcddaaDoorM11
import Derived.Test.YtjjmefieegcddaaDoorM08
import Derived.Test.YtjjmefieegcddaaDoorM09
import Derived.Deep.Upon
import Derived.Test.YtjjmefieegcddaaDoorM10
import Derived.Test.YtjjmefieegcddaaDoorM05
import Derived.Maps.Own
import Derived.Maps.Views
import Derived.Maps.OwnOps
set_option linter.unusedVariables false
set_option linter.unusedSimpArgs false
set_option maxHeartbeats 8000000
set_option maxRecDepth 20000
namespace Go.Proofs.YtjjmefieegcddaaDoor
open Go.RowKit Go.Wg Go.Mm
variable {w:World} {V:View}
theorem qB {a b:Value} (h1:a.oneCell'=true) (h2:b.oneCell'=true):∀ v∈[a,b],v.oneCell'=true:=fun v hv=>by
 rcases List.mem_cons.1 hv with rfl|hv
 ·exact h1
 ·rw[List.mem_singleton]at hv;subst hv;exact h2
theorem afE (l:List je) (pad:List Value) (q:Nat) (hq:q<l.length) (sh:Int):(fH l ++ pad).set (q * 4+2) (.int .i64 sh)=fH (l.set q ⟨(l.getD q default).vessel,(l.getD q default).scale,sh,(l.getD q default).err⟩) ++ pad:=by
 induction l generalizing q with
 |nil=>simp at hq
 | cons v l ih =>
  cases q with
  |zero=>simp[fH,je.cells]
  |succ q =>
   have h:=ih q (by simpa using hq);rw[show(q+1) * 4+2=q * 4+2+1+1+1+1 by omega];simp only[fH,List.flatMap_cons,je.cells,List.cons_append,List.nil_append,List.set_cons_succ,List.getD_cons_succ]at h |-;rw[h]
theorem afG (l:List je) (pad:List Value) (q:Nat) (hq:q<l.length):(fH l ++ pad)[q * 4+2]? = some (.int .i64 (l.getD q default).shown):=by
 have:=Ei je.cells (fun _=>rfl) l q (l.getD q default) (by simp[List.getD_eq_getElem?_getD,List.getElem?_eq_getElem hq]) 2 (by decide);rw[List.getElem?_append_left (by rw[fH,jK _ (fun _=>rfl)];omega)];exact this
set_option maxRecDepth 40000 in
theorem afr {bh:Nat} {lv:Value} {cn st:Int} (hh:xB V bh lv cn) (hc9:cn<=900000) {vessels room:Int} (hv:1<=vessels/\vessels<=6) (hr:1<=room/\room<=40) (hV:V.In w) (hVb:V bh=none) (hg:w.heap[bh]? = some (.cells (bn lv cn st).toArray 90 (0,0))) :
  Calls Tryd.prog 33 #[.pointer (some ⟨bh,0,none⟩),.int .i64 vessels,.int .i64 room] w fun e w'=>∃ (k:Wk) (vv rv:Value) (cn' st':Int),e=.returned (.agg #[vv,rv])/\k.Ok/\(k.n:Int)<=vessels/\k.rdg.length<=4/\cn<=cn'/\cn'<=cn+120 /\
   St w [bh] V [.row vv 29 4 k.n (fD k.ves),.row rv 59 4 k.rdg.length (fH k.rdg),.blk bh 90 (bn lv cn' st')] w':=by
 have hS:=St.xW w V hV hg hVb;have hto:=fun(c:Int) (h1:cn<=c) (h2:c<=1000000)=>hh.to h1 h2
 clear hg;go_enter Tryd.func33,Tryd.ntmps33
 go_wp2_with (first|(refine ys ?_;clear hS;intro w' hS)|(refine ya 6 ?_;clear hS;intro b6 w' hS)|(refine ya 7 ?_;clear hS;intro b7 w' hS)|(go_at_call 38;refine(Ub hh hc9 hv hr (St.view hS) hVb (St.dR hS)).mono ?_;rintro _ w1 ⟨k,ws,vv,rv,mv,c1,s1,rfl,hok,hkn,hrl,htr,k1,k2,hS1⟩;replace hS:St w [bh] V [.row mv 3 1 k.n (aV ws),.row vv 29 4 k.n (fD k.ves),.row rv 59 4 k.rdg.length (fH k.rdg),.blk b6 25 [.slice none 0 0,.slice none 0 0],.blk bh 90 (bn lv c1 s1)] w1:=hS.comp (j:=1) rfl (hS1.perm (List.perm_append_comm (l₁:=[_,_,_]) (l₂:=[_])));clear hS1;have hvv:=dY hS vv;have hrv:=dY hS rv;have hone2:∀ v∈[vv,rv],v.oneCell'=true:=qB hvv hrv))
 have hS3:=hS.perm (List.perm_middle (l₁:=[_,_,_]));have hrd:∀ j,j<k.rdg.length->(k.rdg.getD j default).shown<=49:=fun j hj=>by
  obtain⟨o1,o2,_,_,_,_,o7,o8⟩:=hok.rdg j hj;have hm:k.rdg.getD j default∈k.rdg:=by
   rw[List.getD_eq_getElem?_getD,List.getElem?_eq_getElem hj];exact List.getElem_mem hj
  have h1:=(htr.rdg _ hm).1;have h2:=(htr.room (k.rdg.getD j default).vessel.toNat zw).2;have h3:=(hok.ves (k.rdg.getD j default).vessel.toNat zw).2.2.2.1;omega
 generalize hro:k.rdg=ro at hS hS3 hrd hrl;have hrok:∀ j,j<ro.length->(ro.getD j default).Ok k.n:=fun j hj=>by subst hro;exact hok.rdg j hj
 replace hro:=aj hro;rcases rO hS3 with⟨hrv0,hr0⟩|⟨gr,cap,pad,hrv0,q1,q2,q3,q4,q5,hS4⟩
 ·subst hrv0;rw [hr0] at hS;clear hS3 hrd hrok;go_loopw [9] (fun iv wr=>iv=.int .i64 0/\St w [bh] V [.blk b7 25 [vv,.slice none 0 0],.row vv 29 4 k.n (fD k.ves),.row (.slice none 0 0) 59 4 0 (fH ro),.blk b6 25 [.slice none 0 0,.slice none 0 0],.blk bh 90 (bn lv c1 s1)] wr) (fun _ _=>0)
  case atStart=>exact⟨rfl,hS.aG⟩
  case round =>
   clear hS;obtain⟨rfl,hS⟩:=hrel;go_wp2_with (first|(refine ym ?_;clear hS;intro w' hS)|(refine ys ?_;clear hS;intro w' hS))
   (refine yj ?_;refine bK ⟨_,by exact bH (r1:=.cell 6 25) zk (by exact rX hS rfl zd),?_⟩ rfl)
   exact⟨k,vv,_,c1,s1,rfl,hok,hkn,(by rw[hro.out];exact hrl),by omega,by omega,by rw[hro.out,hr0];exact hS.aG⟩
 ·subst hrv0;replace hS:St w [bh] V [.blk gr 59 (fH ro ++ pad),.blk b7 25 [vv,.slice (some ⟨gr,0,none⟩) ro.length cap],.row mv 3 1 k.n (aV ws),.row vv 29 4 k.n (fD k.ves),.blk b6 25 [.slice none 0 0,.slice none 0 0],.blk bh 90 (bn lv c1 s1)] _:=hS4;clear hS3 hS4;have hpl:ro.length * 4+pad.length=cap * 4:=by rw [List.length_append,q3] at q4;exact q4
  clear q3 q4;have hkl:0<=k.n:=by omega
  go_loopw [9] (fun iv wr=>∃ (i:Nat) (r:List je) (c2 s2:Int),iv=.int .i64 (i:Int)/\i<=ro.length/\r.length=ro.length/\(∀ j,j<ro.length->(r.getD j default).Ok k.n/\(i<=j->(r.getD j default).shown<=49))/\cn<=c2/\c2<=cn+100+2 * i /\
   St w [bh] V [.blk gr 59 (fH r ++ pad),.blk b7 25 [vv,.slice (some ⟨gr,0,none⟩) ro.length cap],.row vv 29 4 k.n (fD k.ves),.blk b6 25 [.slice none 0 0,.slice none 0 0],.blk bh 90 (bn lv c2 s2)] wr) (fun iv _=>ro.length-(intOf iv).toNat)
  case atStart=>exact⟨0,ro,c1,s1,rfl,by omega,rfl,fun j hj=>⟨hrok j hj,fun _=>hrd j hj⟩,by omega,by omega,hS.aG⟩
  case round =>
   clear hS;obtain⟨i,r,c2,s2,rfl,hi,hrl2,hall,k3,k4,hS⟩:=hrel;by_cases hlt:i<ro.length
   ·have hlt':(i:Int) < ro.length:=by omega
    have h0i:(0:Int)<=i:=by omega
    obtain⟨⟨o1,o2,o3,o4,o5,o6,o7,o8⟩,o9⟩:=hall i hlt;have o10:=o9 (Nat.le_refl _);have hcell:=afG r pad i zw;have hlr:(fH r).length+pad.length >= ro.length * 4:=by rw[fH,jK _ (fun _=>rfl),hrl2];omega
    have hup:=afE r pad i zw;have hnx:∀ sh,0<=sh->sh<=60->∀ j,j<ro.length->((r.set i ⟨(r.getD i default).vessel,(r.getD i default).scale,sh,(r.getD i default).err⟩).getD j default).Ok k.n/\(i+1<=j->((r.set i ⟨(r.getD i default).vessel,(r.getD i default).scale,sh,(r.getD i default).err⟩).getD j default).shown<=49):=fun sh h1 h2 j hj=>by
     rw[fC _ _ _ _ _ zw];by_cases e:i=j
     ·subst e;rw[if_pos rfl];exact⟨⟨o1,o2,o3,o4,h1,h2,o7,o8⟩,fun h=>by omega⟩
     ·rw[if_neg e];exact⟨(hall j hj).1,fun h=>(hall j hj).2 zw⟩
    have hno:∀ j,j<ro.length->(r.getD j default).Ok k.n/\(i+1<=j->(r.getD j default).shown<=49):=fun j hj=>⟨(hall j hj).1,fun h=>(hall j hj).2 zw⟩
    generalize (r.getD i default).shown=sh0 at hcell o5 o10;clear o1 o2 o3 o4 o6 o7 o8 o9;replace hnx:=aj hnx;replace hno:=aj hno;replace hup:=aj hup;clear hall hrd hrok;go_wp2_with (first|(refine yy ?_;clear hS;intro w' hS)|(go_at_call 72;refine eF hS ⟨1,_,fun _ hg=>TG (hto _ zw zw) zw (St.view hS) hVb hg,?_⟩;clear hS;intro v c3 s3 w' hp k5 k6 hS;(try simp only[sE]at hS);obtain⟨x,rfl⟩:=hp))
    focus
     (refine bF (S:=(St w [bh] V [.blk b7 25 [vv,.slice (some ⟨gr,0,none⟩) ro.length cap]])) (List.replicate 17 false) rfl zk ?_;replace hS:=St.eY hS;(refine yh [.p 0,.a 1,.m 2,.p 3,.a 4,.m 5,.p 6,.p 7,.m 9] ?_);(focus (refine nP 8 10 zk ?_ ?_;rotate_left;(refine Iu 10 rfl hS rfl  rfl ?_;refine⟨_,zq,zd,?_⟩;clear hS;intro b36;refine zH ?_;intro w' hS;refine⟨(St.aG hS),?_⟩);(focus (refine nP 8 11 zk ?_ ?_;rotate_left;(refine VX (bh:=bh) 11 rfl hS rfl  ?_;refine⟨_,_,zo,?_⟩;refine⟨1,_,(fun _ hg=>tH (b:=b36) (hto _ zw zw) hS.dR ⟨rfl,by decide,by decide⟩ (St.view hS) hVb (zf hS (by decide)) hg),?_⟩;clear hS;intro v c37 s37 a' l' hpr hc37 hd37 hp hl;obtain⟨x37,rfl,hx37⟩:=hpr;replace hx37:-6<=x37/\x37<=6:=(by simp only[List.mem_cons,List.not_mem_nil,or_false]at hx37;omega);(try simp only[fr]at hp);(try simp only[sB]at hl);subst hp;subst hl;intro w' hS;(try simp only[sE]at hS);refine⟨(St.aG hS),?_⟩);(refine AZ 8 zk rfl hS rfl rfl rfl ?_;refine⟨_,zd,?_⟩;clear hS;refine zH ?_;intro w' hS;refine⟨(St.aG hS),?_⟩);(refine dw 12 rfl zk zk zk (fun _ _ _ _ h=>h) rfl (St.aG hS) ?_;refine⟨_,zp,?_⟩;refine zH ?_);(refine dw 13 rfl zk zk zk (fun _ _ _ _ h=>h) rfl (St.aG hS) ?_;refine⟨_,(fun w=>vW rfl rfl rfl w),?_⟩;refine zH ?_);(refine dw 14 rfl zk zk zk (fun _ _ _ _ h=>h) rfl (St.aG hS) ?_;refine⟨_,zp,?_⟩;refine zH ?_);(refine dw 15 rfl zk zk zk (fun _ _ _ _ h=>h) rfl (St.aG hS) ?_;refine⟨_,zp,?_⟩;refine zH ?_);((refine jl 16 zk rfl hS rfl  rfl rfl ?_;refine⟨_,zd,?_⟩);clear hS;refine zH ?_;intro w' hS;(try simp only[sE]at hS);refine⟨(St.aG hS),?_⟩);refine wpAnyH_done zk ?_ _;rotate_left;(refine yK 8 rfl hS rfl  rfl rfl ?_;refine⟨_,zd,?_⟩;clear hS;refine zH ?_;intro w' hS;refine⟨(St.aG hS),?_⟩);(refine yC (bh:=bh) 11 zk rfl hS rfl  ?_;refine⟨_,_,zo,?_⟩;refine⟨1,_,(fun _ hg=>tH (b:=b36) (hto _ zw zw) hS.dR ⟨rfl,by decide,by decide⟩ (St.view hS) hVb (zf hS (by decide)) hg),?_⟩;clear hS;intro v c37 s37 a' l' hpr hc37 hd37 hp hl;obtain⟨x37,rfl,hx37⟩:=hpr;replace hx37:-6<=x37/\x37<=6:=(by simp only[List.mem_cons,List.not_mem_nil,or_false]at hx37;omega);(try simp only[fr]at hp);(try simp only[sB]at hl);subst hp;subst hl;intro w' hS;(try simp only[sE]at hS);refine⟨(St.aG hS),?_⟩);(refine dw 12 rfl zk zk zk (fun _ _ _ _ h=>h) rfl (St.aG hS) ?_;refine⟨_,zp,?_⟩;refine zH ?_);(refine dw 13 rfl zk zk zk (fun _ _ _ _ h=>h) rfl (St.aG hS) ?_;refine⟨_,(fun w=>vW rfl rfl rfl w),?_⟩;refine zH ?_);(refine dw 14 rfl zk zk zk (fun _ _ _ _ h=>h) rfl (St.aG hS) ?_;refine⟨_,zp,?_⟩;refine zH ?_);(refine dw 15 rfl zk zk zk (fun _ _ _ _ h=>h) rfl (St.aG hS) ?_;refine⟨_,zp,?_⟩;refine zH ?_);((refine jl 16 zk rfl hS rfl  rfl rfl ?_;refine⟨_,zd,?_⟩);clear hS;refine zH ?_;intro w' hS;(try simp only[sE]at hS);refine⟨(St.aG hS),?_⟩);refine wpAnyH_done zk ?_ _));rotate_left 2;(refine yK 8 rfl hS rfl  rfl rfl ?_;refine⟨_,zd,?_⟩;clear hS;refine zH ?_;intro w' hS;refine⟨(St.aG hS),?_⟩);(refine Ec 10 zk rfl hS rfl  rfl ?_;refine⟨_,zq,zd,?_⟩;clear hS;intro b36;refine zH ?_;intro w' hS;refine⟨(St.aG hS),?_⟩);(refine yC (bh:=bh) 11 zk rfl hS rfl  ?_;refine⟨_,_,zo,?_⟩;refine⟨1,_,(fun _ hg=>tH (b:=b36) (hto _ zw zw) hS.dR ⟨rfl,by decide,by decide⟩ (St.view hS) hVb (zf hS (by decide)) hg),?_⟩;clear hS;intro v c37 s37 a' l' hpr hc37 hd37 hp hl;obtain⟨x37,rfl,hx37⟩:=hpr;replace hx37:-6<=x37/\x37<=6:=(by simp only[List.mem_cons,List.not_mem_nil,or_false]at hx37;omega);(try simp only[fr]at hp);(try simp only[sB]at hl);subst hp;subst hl;intro w' hS;(try simp only[sE]at hS);refine⟨(St.aG hS),?_⟩);(refine dw 12 rfl zk zk zk (fun _ _ _ _ h=>h) rfl (St.aG hS) ?_;refine⟨_,zp,?_⟩;refine zH ?_);(refine dw 13 rfl zk zk zk (fun _ _ _ _ h=>h) rfl (St.aG hS) ?_;refine⟨_,(fun w=>vW rfl rfl rfl w),?_⟩;refine zH ?_);(refine dw 14 rfl zk zk zk (fun _ _ _ _ h=>h) rfl (St.aG hS) ?_;refine⟨_,zp,?_⟩;refine zH ?_);(refine dw 15 rfl zk zk zk (fun _ _ _ _ h=>h) rfl (St.aG hS) ?_;refine⟨_,zp,?_⟩;refine zH ?_);((refine jl 16 zk rfl hS rfl  rfl rfl ?_;refine⟨_,zd,?_⟩);clear hS;refine zH ?_;intro w' hS;(try simp only[sE]at hS);refine⟨(St.aG hS),?_⟩);refine wpAnyH_done zk ?_ _)))
     all_goals (
      rw[hup.out]at hS;go_wp2_with (fail)
      go_roundw
      case rel=>exact⟨i+1,_,c37,s37,by go_num,by omega,by rw[List.length_set];exact hrl2,hnx.out (max 0 (sh0+x37)) zw zw,by omega,by omega,hS.aG⟩
      case measure=>simp only[intOf];omega)
    go_roundw
    case rel=>exact⟨i+1,r,c3,s3,by go_num,by omega,hrl2,hno.out,by omega,by omega,hS.aG⟩
    case measure=>simp only[intOf];omega
   ·obtain rfl:i=ro.length:=by omega
    have hone3:∀ v∈[vv,Value.slice (some ⟨gr,0,none⟩) ro.length cap],v.oneCell'=true:=qB hvv rfl;clear hone2;go_wp2_with (first|(refine ym ?_;clear hS;intro w' hS)|(refine ys ?_;clear hS;intro w' hS))
    (refine yj ?_;refine bK ⟨_,by exact bH (r1:=.cell 6 25) zk (by exact rX hS rfl zd),?_⟩ rfl)
    have hK:(⟨k.ves,r⟩:Wk).Ok:=⟨hok.pos,hok.le,hok.ves,by show r.length<=6;omega,fun j hj=>(hall j (by have hj':j<r.length:=hj;omega)).1⟩;refine⟨⟨k.ves,r⟩,vv,_,c2,s2,rfl,hK,hkn,by show r.length<=4;omega,by omega,by omega,?_⟩;have h1:St w [bh] V [.blk gr 59 (fH r ++ pad),.row vv 29 4 k.n (fD k.ves),.blk bh 90 (bn lv c2 s2)] _:=hS.aG;have el:(fH r).length=ro.length * 4:=by rw[fH,jK _ (fun _=>rfl),hrl2]
    have h2:=(XT (n:=ro.length) (s:=4) (cap:=cap) h1 q1 q2 el (by rw[List.length_append,el];exact hpl) q5).perm (List.Perm.swap _ _ _);show St w [bh] V [.row vv 29 4 k.n (fD k.ves),.row _ 59 4 r.length (fH r),.blk bh 90 (bn lv c2 s2)] _;rw[hrl2];exact h2
theorem F6 {P:Program} {w0:World} {X:List Nat} {L:List dF} (hS:St w0 X V L w) {o:Oper} {ρ:Operand->Value} {sl x:Operand} {t e:TypeId} {size:Nat} (ho:o.op=.call {callee:=.builtin .append,args:=#[sl,x],argTypes:=#[t,t]})
  (ht:Yv P t e size=true) {j n:Nat} {v:Value} {xs:List Value} (hj:L[j]? = some (.row v e size n xs)) (hv:ρ sl=v)
  {b off m c:Nat} {news:List Value} (hjb:V.Range b off news) (hx:ρ x=.slice (some ⟨b,off,none⟩) m c) (hm:news.length=m * size) (h1:∀ u∈news,u.oneCell'=true) (hn:n+m<=1000) :
  ∃ v' w',(execOp ρ o).run P w=.ok (.value v') w'/\St w0 X V (L.set j (.row v' e size (n+m) (xs ++ news))) w':=by
 have hcell:∀ i u,news[i]? = some u->w.cell? ⟨b,off+i,none⟩=some u:=fun i u hi=>(hjb i u hi).cell hS.view
 unfold Yv at ht;simp only[Bool.and_eq_true]at ht;obtain⟨⟨ht1,ht2⟩,ht3⟩:=ht;have hu:P.underlying t=some (.slice e):=by
  cases hd:P.underlying t with
  |none=>rw[hd]at ht1;cases ht1
  |some d=>rw[hd]at ht1;cases d<;>simp_all
 cases hq:P.info? e with
 |none=>rw[hq]at ht2;cases ht2
 | some q =>
  rw[hq]at ht2;simp only[Option.any_some,Bool.and_eq_true,beq_iff_eq,decide_eq_true_eq]at ht2;obtain⟨⟨hqs,hqz⟩,hqb⟩:=ht2;cases hz:q.zero with
  |none=>rw[hz]at hqz;cases hqz
  | some z =>
   rw[hz]at hqz;simp only[Option.any_some,Bool.and_eq_true,beq_iff_eq]at hqz;obtain⟨hqz,hqf⟩:=hqz;have hsz:0<size:=by simpa using ht3
   obtain⟨v',w',hr,h2,h3,_,h5⟩:=run_append_own_at (P:=P) w 0 t o.type e q z size q.bytes hu hq hz hqs rfl hqz hsz v n xs (hS.wu hj) ⟨b,off,none⟩ m c news hm
    (fun i u hi=>by rw [Addr.add_mid];exact hcell i u hi) h1 (by unfold maxLen;omega) (by
     have:(n+m) * q.bytes<=1000 * 1000:=Nat.mul_le_mul hn hqb;omega) (Nat.zero_le _)
   refine⟨v',w',?_,hS.grow hj h3 h2 (hqs ▸ yw (P:=P) hu hq hz hqf (hqs ▸ hS.wu hj) (hqs ▸ hS.Wj hj) (a:=⟨b,off,none⟩) (hqs ▸ hm) (fun i u hi=>by rw[Addr.add_mid];exact hcell i u hi) h1 (by unfold maxLen;omega) (by
     have:(n+m) * q.bytes<=1000 * 1000:=Nat.mul_le_mul hn hqb;omega) hr) h5⟩
   unfold execOp;simp only[ho,resolve,invoke,builtin,Sem.run_bind,Sem.run_pure,Result.andThen_ok,List.map_toArray,List.map_cons,List.map_nil,hv,hx,hr]
end Go.Proofs.YtjjmefieegcddaaDoor
namespace Go.Wg
open Go Go.Mm Go.Proofs.YtjjmefieegcddaaDoor
variable {k:Wk} {i p:Nat}
def LJ (k:Wk) (v:Nat):Nat->Nat->Bool
 |0,_=>false
 |f+1,i=>i == v || (decide (0<=(k.v i).from_) && LJ k v f (k.v i).from_.toNat)
def inB (k:Wk) (v i:Nat):Bool:=LJ k v (i+1) i
def cB (k:Wk) (v i:Nat):Nat:=((List.range i).filter (inB k v)).length
def lq (k:Wk) (v i:Nat):Int:=if inB k v i then(cB k v i:Int) else -1
def DK (k:Wk) (v i:Nat):nN:=⟨if i=v then -1 else lq k v (k.v i).from_.toNat,(k.v i).room,(k.v i).lo,(k.v i).hi⟩
def Oj (k:Wk) (v:Nat) (r:je):je:=⟨lq k v r.vessel.toNat,r.scale,r.shown,r.err⟩
def rF (k:Wk) (v m:Nat):List nN:=((List.range m).filter (inB k v)).map (DK k v)
def kQ (k:Wk) (v m:Nat):List je:=((k.rdg.take m).filter fun r=>inB k v r.vessel.toNat).map (Oj k v)
def Wk.branch (k:Wk) (v:Nat):Wk:=⟨rF k v k.n,kQ k v k.rdg.length⟩
theorem RX {k:Wk} (hok:k.Ok) (v:Nat):∀ (f g i:Nat),i<f->i<g->i<k.n->LJ k v f i=LJ k v g i:=fun f=>by
 induction f with
 |zero=>exact fun g i h=>absurd h (by omega)
 |succ f ih =>
  intro g i hf hg hi;obtain⟨g,rfl⟩:∃ g',g=g'+1:=⟨g-1,by omega⟩;rw[LJ,LJ];by_cases h:0<=(k.v i).from_
  ·have h2:=(hok.ves i hi).2.1;rw[ih g (k.v i).from_.toNat (by omega) (by omega) (by omega)]
  ·simp[h]
theorem kJ (hok:k.Ok) (v:Nat) (hi:i<k.n):inB k v i=(i == v || (decide (0<=(k.v i).from_) && inB k v (k.v i).from_.toNat)):=by
 unfold inB;rw[LJ];by_cases h:0<=(k.v i).from_
 ·have h2:=(hok.ves i hi).2.1;rw[RX hok v i ((k.v i).from_.toNat+1) (k.v i).from_.toNat (by omega) (by omega) (by omega)]
 ·simp[h]
theorem DN {k:Wk} (hok:k.Ok) (v:Nat) (i:Nat):i<k.n->inB k v i=true->v<=i:=by
 induction i using Nat.strongRecOn with
 |ind i ih =>
  intro hi h;rw[kJ hok v hi,Bool.or_eq_true,Bool.and_eq_true,beq_iff_eq,decide_eq_true_eq]at h;rcases h with h|⟨h1,h2⟩
  ·omega
  ·have h3:=(hok.ves i hi).2.1;have:=ih _ (by omega) (by omega) h2;omega
theorem gq (k:Wk) (v:Nat):inB k v v=true:=by
 unfold inB;rw[LJ];simp
theorem yZ (k:Wk) (v i:Nat):cB k v (i+1)=cB k v i+if inB k v i then 1 else 0:=by
 unfold cB;rw[List.range_succ,List.filter_append,List.length_append];by_cases h:inB k v i=true<;>simp[h]
theorem XU (k:Wk) (v:Nat) {i j:Nat} (h:i<=j):cB k v i<=cB k v j:=by
 induction j with
 |zero =>
  obtain rfl:i=0:=by omega
  exact Nat.le_refl _
 |succ j ih =>
  rw[yZ];by_cases e:i=j+1
  ·subst e;rw[yZ];omega
  ·have:=ih (by omega);omega
theorem vH (k:Wk) (v:Nat) {j:Nat} (h:i<j) (hi:inB k v i=true):cB k v i<cB k v j:=by
 have h1:=XU k v h;rw[Nat.succ_eq_add_one,yZ,if_pos hi]at h1;omega
theorem VQ (k:Wk) (v i:Nat):cB k v i<=i:=by
 have:=List.length_filter_le (inB k v) (List.range i)
 rwa [List.length_range]at this
theorem Gp (k:Wk) (v m:Nat):(rF k v m).length=cB k v m:=by simp[rF,cB]
theorem wG (k:Wk) (v m:Nat):(kQ k v m).length<=m:=by
 unfold kQ;rw[List.length_map];have:=List.length_filter_le (fun r=>inB k v r.vessel.toNat) (k.rdg.take m);rw[List.length_take]at this;omega
theorem jy (k:Wk) (v:Nat):(k.branch v).n=cB k v k.n:=Gp k v k.n
def gB (k:Wk) (v p:Nat):Nat:=((List.range k.n).filter (inB k v)).getD p 0
theorem Yt (k:Wk) (v:Nat) {i m:Nat} (hi:i<m) (hb:inB k v i=true):((List.range m).filter (inB k v))[cB k v i]? = some i:=by
 induction m with
 |zero=>omega
 |succ m ih =>
  rw[List.range_succ,List.filter_append];by_cases e:i=m
  ·subst e;rw[List.getElem?_append_right (by unfold cB;omega)];simp[cB,hb]
  ·have h1:=ih (by omega);rw[List.getElem?_append_left (List.getElem?_eq_some_iff.1 h1).1];exact h1
theorem uV (k:Wk) (v:Nat) (hp:p<cB k v k.n):gB k v p<k.n/\inB k v (gB k v p)=true:=by
 have h:gB k v p∈(List.range k.n).filter (inB k v):=by
  unfold gB;have hp':p<((List.range k.n).filter (inB k v)).length:=hp;rw[List.getD_eq_getElem?_getD,List.getElem?_eq_getElem hp'];exact List.getElem_mem hp'
 obtain⟨h1,h2⟩:=List.mem_filter.1 h;exact⟨List.mem_range.1 h1,h2⟩
theorem Qo (k:Wk) (v:Nat) (hp:p<cB k v k.n):cB k v (gB k v p)=p:=by
 obtain⟨h1,h2⟩:=uV k v hp;have h3:=Yt k v h1 h2;have hp':p<((List.range k.n).filter (inB k v)).length:=hp;have h4:((List.range k.n).filter (inB k v))[p]? = some (gB k v p):=by
  unfold gB;rw[List.getD_eq_getElem?_getD,List.getElem?_eq_getElem hp'];rfl
 have hpw:((List.range k.n).filter (inB k v)).Pairwise (· < ·):=List.pairwise_lt_range.filter _;obtain⟨q1,q2⟩:=List.getElem?_eq_some_iff.1 h3;obtain⟨q3,q4⟩:=List.getElem?_eq_some_iff.1 h4;have hlt:=List.pairwise_iff_getElem.1 hpw;rcases Nat.lt_trichotomy (cB k v (gB k v p)) p with h|h|h
 ·have:=hlt _ _ q1 q3 h;omega
 ·exact h
 ·have:=hlt _ _ q3 q1 h;omega
theorem zM (k:Wk) (v:Nat) (hp:p<cB k v k.n):(k.branch v).v p=DK k v (gB k v p):=by
 have hp':p<((List.range k.n).filter (inB k v)).length:=hp;show(rF k v k.n).getD p default=_;unfold rF gB;simp[List.getD_eq_getElem?_getD,List.getElem?_map,List.getElem?_eq_getElem hp']
theorem J9 {k:Wk} (hok:k.Ok) (s:SS):∀ m,m<=k.n->∀ i,k.n-m<=i->i<k.n->(mJ k s m).getD i 0=(up k s).getD i 0:=by
 have key:∀ d m,m+d<=k.n->∀ i,k.n-m<=i->i<k.n->(mJ k s (m+d)).getD i 0=(mJ k s m).getD i 0:=fun d=>by
  induction d with
  |zero=>exact fun _ _ _ _ _=>rfl
  |succ d ih =>
   intro m hm i h1 h2;have hl:=kZ k s (m+d);have h6:=hok.le;rw[show m+(d+1)=(m+d)+1 by omega,mJ,fC _ _ _ _ _ (by omega),if_neg (by omega)];exact ih m (by omega) i h1 h2
 intro m hm i h1 h2;have:=key (k.n-m) m (by omega) i h1 h2;rw[show m+(k.n-m)=k.n by omega]at this;exact this.symm
theorem OL {out out':List Nat} {f:List Nat} (h:∀ x∈f,out.getD x 0=out'.getD x 0):sums out f=sums out' f:=by
 have key:∀ (f:List Nat) (m:Nat),(∀ x∈f,out.getD x 0=out'.getD x 0)->f.foldl (fun m x=>nV m (out.getD x 0)) m=f.foldl (fun m x=>nV m (out'.getD x 0)) m:=fun f=>by
  induction f with
  |nil=>exact fun _ _=>rfl
  |cons x f ih =>
   intro m h;rw[List.foldl_cons,List.foldl_cons,h x (by simp)];exact ih _ fun y hy=>h y (by simp[hy])
 exact key f 1 h
theorem aaT (hok:k.Ok) (s:SS) (hi:i<k.n):(up k s).getD i 0=if k.fills i=[] then s.aK i else s.aK i &&& nV (sums (up k s) (k.fills i)) (dO (s.aP i).1 (s.aP i).2):=by
 have h6:=hok.le;have hl:=kZ k s (k.n-1-i);have h1:=J9 hok s (k.n-1-i+1) (by omega) i (by omega) hi;rw[<- h1,mJ,show k.n-1-(k.n-1-i)=i by omega,fC _ _ _ _ _ (by omega),if_pos rfl];unfold uX;by_cases h:k.fills i=[]
 ·rw[if_pos h,if_pos h]
 ·rw [if_neg h,if_neg h];congr 2;refine OL fun x hx=>?_
  have hx:=rV hok hx;rw[fC _ _ _ _ _ (by omega),if_neg (by omega)];exact J9 hok s _ (by omega) x (by omega) hx.2
theorem kP (hok:k.Ok) {v:Nat} (hv:v<k.n):(k.branch v).Ok:=by
 have h0:0<cB k v k.n:=by
  have:=vH k v hv (gq k v);omega
 have h6:=hok.le;have hcl:=VQ k v k.n;refine⟨by rw[jy];exact h0,by rw[jy];omega,fun p hp=>?_,?_,fun q hq=>?_⟩
 ·rw [jy] at hp;obtain ⟨g1,g2⟩:=uV k v hp;obtain ⟨o1,o2,o3⟩:=hok.ves _ g1;rw [zM k v hp];refine ⟨?_,?_,o3⟩
  ·show -1<=(DK k v (gB k v p)).from_;unfold DK lq;simp only;split
   ·omega
   ·split<;>omega
  ·show (DK k v (gB k v p)).from_ < p;unfold DK;simp only;split
   ·omega
   ·next e =>
    rw[kJ hok v g1,Bool.or_eq_true,Bool.and_eq_true,beq_iff_eq,decide_eq_true_eq]at g2;rcases g2 with g2|⟨g2,g3⟩
    ·exact absurd g2 e
    ·unfold lq;rw[if_pos g3];have:=vH k v (i:=(k.v (gB k v p)).from_.toNat) (j:=gB k v p) (by omega) g3;rw[Qo k v hp]at this;omega
 ·have:=wG k v k.rdg.length;have:=hok.rdl;show(kQ k v k.rdg.length).length<=6;omega
 ·rw [jy];have hq':q < (kQ k v k.rdg.length).length:=hq;have hm:(k.branch v).rdg.getD q default∈kQ k v k.rdg.length:=by
   show(kQ k v k.rdg.length).getD q default∈_;rw[List.getD_eq_getElem?_getD,List.getElem?_eq_getElem hq'];exact List.getElem_mem hq'
  obtain⟨r,hr,he⟩:=List.mem_map.1 hm;obtain⟨hr1,hr2⟩:=List.mem_filter.1 hr;rw[List.take_length]at hr1;obtain⟨j,hj,hjr⟩:=List.getElem_of_mem hr1;have hro:=hok.rdg j hj;have e:k.rdg.getD j default=r:=by simp[List.getD_eq_getElem?_getD,List.getElem?_eq_getElem hj,hjr]
  rw[e]at hro;obtain⟨o1,o2,o3⟩:=hro;rw[<- he];refine⟨?_,?_,o3⟩
  ·show 0<=lq k v r.vessel.toNat;unfold lq;rw[if_pos hr2];omega
  ·show lq k v r.vessel.toNat<_;unfold lq;rw[if_pos hr2];have:=vH k v (i:=r.vessel.toNat) (j:=k.n) (by omega) hr2;omega
theorem Vm (k:Wk) (h6:k.n<=6) (m:Nat) (hm:m<=k.n) (i:Nat):(lS k m).aK i=if i<m then dO 0 (k.v i).room else 0:=by
 induction m with
 |zero =>
  show(List.replicate 6 0).getD i 0=_;rw[List.getD_eq_getElem?_getD,List.getElem?_replicate];split<;>simp
 | succ m ih =>
  have hl:=(nX k m).lim;show((lS k m).lim.set m (dO 0 (k.v m).room)).getD i 0=_;rw[fC _ _ _ _ _ (by omega)];have ih':(lS k m).lim.getD i 0=_:=ih (by omega);by_cases e:m=i
  ·subst e;simp
  ·rw [if_neg e,ih'];by_cases h2:i < m
   ·rw[if_pos h2,if_pos (by omega)]
   ·rw[if_neg h2,if_neg (by omega)]
def BD (x:Nat) (l:List je):Nat:=l.foldl (fun m r=>m &&& dO (r.shown-r.err) (r.shown+r.err)) x
theorem Dh {k:Wk} (h6:k.n<=6) (hr:∀ r∈k.rdg,0<=r.vessel/\r.vessel<k.n) (b:je->Bool) {i:Nat} (hi:i<k.n):(aN k b).aK i=BD (dO 0 (k.v i).room) (k.rdg.filter fun r=>!b r && r.vessel.toNat == i):=by
 have key:∀ (l:List je) (s:SS),s.WF->(∀ r∈l,0<=r.vessel/\r.vessel<k.n)->(l.foldl (lU b) s).aK i=BD (s.aK i) (l.filter fun r=>!b r && r.vessel.toNat == i):=fun l=>by
  induction l with
  |nil=>exact fun _ _ _=>rfl
  | cons r l ih =>
   intro s hs hl;have hl0:=hl r (by simp);have hsl:=hs.lim;rw[List.foldl_cons,ih _ (J7 hs r) fun x hx=>hl x (by simp[hx])];unfold lU;by_cases hb:b r=true
   ·simp[hb]
   ·rw [if_neg hb];have e1:(s.cu r.vessel.toNat (s.aK r.vessel.toNat &&& dO (r.shown - r.err) (r.shown+r.err))).aK i=if r.vessel.toNat=i then s.aK r.vessel.toNat &&& dO (r.shown - r.err) (r.shown+r.err) else s.aK i:=fC _ _ _ _ _ (by omega)
    rw[e1];by_cases e:r.vessel.toNat=i
    ·subst e;simp[hb,BD]
    ·simp[e]
 unfold aN;rw[key k.rdg _ (nX k _) hr,Vm k h6 k.n (Nat.le_refl _),if_pos hi]
theorem yF (hok:k.Ok):∀ r∈k.rdg,0<=r.vessel/\r.vessel<k.n:=fun r hr=>by
 obtain⟨j,hj,hjr⟩:=List.getElem_of_mem hr;have hro:=hok.rdg j hj;have e:k.rdg.getD j default=r:=by simp[List.getD_eq_getElem?_getD,List.getElem?_eq_getElem hj,hjr]
 rw[e]at hro;exact⟨hro.1,hro.2.1⟩
theorem RZ (x:Nat) (l:List je) (f:je->je) (h:∀ r,(f r).shown=r.shown/\(f r).err=r.err):BD x (l.map f)=BD x l:=by
 unfold BD;rw[List.foldl_map];congr 1;funext m r;rw[(h r).1,(h r).2]
end Go.Wg
namespace Go.Proofs.YtjjmefieegcddaaDoor
open Go.RowKit Go.Wg Go.Mm
variable {w:World} {V:View}
def adt (k:Wk) (v m:Nat):List Int:=((List.range m).filter fun j=>(k.v j).from_ == (v:Int)).map fun j:Nat=>(j:Int)
theorem adW (k:Wk) (v m:Nat):adt k v (m+1)=if (k.v m).from_=(v:Int) then adt k v m ++ [(m:Int)] else adt k v m:=by
 unfold adt;rw[List.range_succ,List.filter_append,List.map_append];by_cases h:(k.v m).from_=(v:Int)
 ·simp[h]
 ·simp[h]
theorem adL (k:Wk) (v m:Nat):(adt k v m).length<=m:=by
 unfold adt;rw[List.length_map];have:=List.length_filter_le (fun j=>(k.v j).from_ == (v:Int)) (List.range m)
 rwa [List.length_range]at this
theorem adI (k:Wk) (v:Nat):adt k v k.n=(k.fills v).map fun j:Nat=>(j:Int):=rfl
theorem adK {vv rv:Value} {k:Wk} (hk:iJ V vv rv k) (v:Nat) (hV:V.In w) :
  Calls Tryd.prog 36 #[.agg #[vv,rv],.int .i64 (v:Int)] w fun r w'=>∃ u,r=.returned u/\Kp w w'/\tY w w' u (adt k v k.n):=by
 obtain⟨va,vcap,rfl,hvc,hvm,hve⟩:=hk.ves.is;obtain⟨ra,rcap,rfl,hrc,hrm,hre⟩:=hk.rdg.is;have hkn:=hk.small.1;have hS:=St.start w V hV;clear hk hre;go_enter Tryd.func36,Tryd.ntmps36
 go_wp2_with (refine yb 2 ?_;clear hS;intro b2 w' hS)
 replace hS:=hS.nilRow 3 1;go_loopw [5,6] (fun sv iv wr=>∃ i:Nat,i<=k.n/\iv=.int .i64 (i:Int)/\sv.oneCell'=true/\St w [] V [.row sv 3 1 (adt k v i).length (aV (adt k v i)),.blk b2 25 [.slice va k.n vcap,.slice ra k.rdg.length rcap]] wr) (fun _ iv _=>k.n-(intOf iv).toNat)
 case atStart=>exact⟨0,by omega,rfl,rfl,hS⟩
 case round =>
  clear hS;obtain⟨i,hi,rfl,hone,hS⟩:=hrel;by_cases hlt:i<k.n
  ·have h0:(0:Int)<=i:=by omega
   have h1:(i:Int)<k.n:=by omega
   obtain⟨vg,vo,rfl,hvr⟩:=hve zw;have hcell0:=hvr i hlt 0 _ rfl;have hcell:=hcell0;simp only[Nat.add_zero]at hcell;have HT:=adW k v i;have hll:=adL k v i;generalize adt k v i=l at hS hll HT;have hil:=iD l;generalize (k.v i).from_=f at hcell hcell0 HT;clear hve hvr;by_cases hf:f=(v:Int)
   ·subst hf;rw [if_pos rfl] at HT;replace HT:=aj HT;go_wp2_with (first | (refine yy ?_;clear hS;intro w' hS) | (refine yg ?_;clear hS;intro _ w' hS) | (refine yp ?_;clear hS;intro va w' hS;have hva:=dY hS va))
    go_roundw
    case rel =>
     refine⟨i+1,by omega,by go_num,hva,?_⟩;rw[HT.out];have ei:aV (l ++ [(i:Int)])=aV l ++ [.int .i64 (i:Int)]:=by simp[aV]
     simp only[ei,List.length_append,List.length_cons,List.length_nil,Nat.zero_add];exact hS.aG
    case measure=>simp only[intOf];omega
   ·rw [if_neg hf] at HT;replace HT:=aj HT;go_wp2_with (refine yy ?_;clear hS;intro w' hS)
    go_roundw
    case rel =>
     refine⟨i+1,by omega,by go_num,hone,?_⟩;rw[HT.out];exact hS.aG
    case measure=>simp only[intOf];omega
  ·obtain rfl:i=k.n:=by omega
   go_wp2_with (refine yy ?_;clear hS;intro w' hS)
   (refine yj ?_;refine bK ⟨_,by exact bH (r1:=.tmp 4) zk (by exact bD rfl),?_⟩ rfl)
   exact⟨_,rfl,hS.bM,vK hS (j:=0) rfl⟩
end Go.Proofs.YtjjmefieegcddaaDoor
namespace Go.Wg
open Go Go.Mm Go.Proofs.YtjjmefieegcddaaDoor
variable {f:List Nat} {k:Wk} {s:SS} {w:Nat->Nat} {i j m n x:Nat} {W:Nat->Nat->Nat}
theorem Dl (m v k t:Nat) (ht:t<64):(gZ m v k).testBit t=true↔∃ n,n<k/\m.testBit n=true/\n<=t/\v.testBit (t-n)=true:=by
 induction k with
 |zero=>simp[gZ]
 | succ k ih =>
  rw[qA];unfold rQ;have hs:(v * 2 ^ k % 18446744073709551616).testBit t=(decide (k<=t) && v.testBit (t-k)):=by
   rw[show(18446744073709551616:Nat)=2 ^ 64 by decide,Nat.testBit_mod_two_pow,<- Nat.shiftLeft_eq,Nat.testBit_shiftLeft];simp[ht]
  by_cases h:m.testBit k=true
  ·rw [if_pos h,Nat.testBit_or,Bool.or_eq_true,ih,hs,Bool.and_eq_true,decide_eq_true_eq];constructor
   ·rintro (⟨n,h1,h2,h3,h4⟩ | ⟨h1,h2⟩)
    ·exact⟨n,by omega,h2,h3,h4⟩
    ·exact⟨k,by omega,h,h1,h2⟩
   ·rintro ⟨n,h1,h2,h3,h4⟩;by_cases e:n=k
    ·subst e;exact .inr ⟨h3,h4⟩
    ·exact .inl ⟨n,by omega,h2,h3,h4⟩
  ·rw [if_neg h,ih];constructor
   ·rintro ⟨n,h1,h2⟩;exact⟨n,by omega,h2⟩
   ·rintro ⟨n,h1,h2,h3⟩;by_cases e:n=k
    ·subst e;exact absurd h2 h
    ·exact⟨n,by omega,h2,h3⟩
theorem X7 (t:Nat):ANY.testBit t=decide (t<41):=by
 rw[show ANY=2 ^ 41-1 by decide,Nat.testBit_two_pow_sub_one]
theorem Ak (m v t:Nat):(nV m v).testBit t=true↔t<=40/\∃ a b,m.testBit a=true/\v.testBit b=true/\a+b=t:=by
 unfold nV;rw[Nat.testBit_and,Bool.and_eq_true,X7,decide_eq_true_eq];constructor
 ·rintro ⟨h1,h2⟩;obtain⟨n,_,h3,h4,h5⟩:=(Dl m v 41 t (by omega)).1 h1;exact⟨by omega,n,t-n,h3,h5,by omega⟩
 ·rintro ⟨h1,a,b,h2,h3,h4⟩;exact⟨(Dl m v 41 t (by omega)).2 ⟨a,by omega,h2,by omega,by rw[show t-a=b by omega];exact h3⟩,by omega⟩
theorem Lp (U:List Nat):∀ (f:List Nat) (m t:Nat),f.Nodup->((f.foldl (fun m x=>nV m (U.getD x 0)) m).testBit t=true↔(f=[]\/t<=40)/\∃ (a:Nat) (c:Nat->Nat),m.testBit a=true/\(∀ x∈f,(U.getD x 0).testBit (c x)=true)/\t=a+(f.map c).sum)
 | [],m,t,_=>by
  simp only[List.foldl_nil,true_or,true_and,List.map_nil,List.sum_nil,Nat.add_zero];exact⟨fun h=>⟨t,fun _=>0,h,(fun x hx=>by cases hx),rfl⟩,fun⟨a,_,h,_,e⟩=>e ▸ h⟩
 | x::f,m,t,hd=>by
  obtain⟨hx,hf⟩:=List.nodup_cons.1 hd;rw[List.foldl_cons,Lp U f _ t hf];constructor
  ·rintro ⟨h0,a,c,h1,h2,h3⟩;obtain ⟨h4,p,q,h5,h6,h7⟩:=(Ak _ _ _).1 h1;refine ⟨.inr ?_,p,fun y=>if y=x then q else c y,h5,fun y hy=>?_,?_⟩
   ·rcases h0 with rfl | h0
    ·simp at h3;omega
    ·exact h0
   ·rcases List.mem_cons.1 hy with rfl | hy
    ·simpa using h6
    ·have:y≠x:=fun e=>hx (e ▸ hy)
     simpa[this]using h2 y hy
   ·have e:f.map (fun y=>if y=x then q else c y)=f.map c:=List.map_congr_left fun y hy=>by
     have:y≠x:=fun e=>hx (e ▸ hy)
     simp[this]
    rw[List.map_cons,List.sum_cons,e,if_pos rfl];omega
  ·rintro ⟨h0,a,c,h1,h2,h3⟩;have ht:t<=40:=h0.resolve_left (by simp);rw[List.map_cons,List.sum_cons]at h3;exact⟨.inr ht,a+c x,c,(Ak _ _ _).2 ⟨by omega,a,c x,h1,h2 x (by simp),rfl⟩,fun y hy=>h2 y (by simp[hy]),by omega⟩
theorem QY (a:Nat):(1:Nat).testBit a=true↔a=0:=by
 cases a with
 |zero=>simp
 |succ a=>simp[Nat.testBit_succ]
theorem MB (U:List Nat) (hf:f.Nodup) (hn:f≠[]) (t:Nat):(sums U f).testBit t=true↔t<=40/\∃ c:Nat->Nat,(∀ x∈f,(U.getD x 0).testBit (c x)=true)/\t=(f.map c).sum:=by
 unfold sums;rw[Lp U f 1 t hf];constructor
 ·rintro ⟨h0,a,c,h1,h2,h3⟩;have:=(QY a).1 h1;exact⟨h0.resolve_left hn,c,h2,by omega⟩
 ·rintro ⟨h0,c,h2,h3⟩;exact⟨.inr h0,0,c,(QY 0).2 rfl,h2,by omega⟩
def Fit (k:Wk) (s:SS) (w:Nat->Nat) (i:Nat):Prop :=
 (s.aK i).testBit (w i)=true/\(k.fills i≠[]->∃ d:Nat,(dO (s.aP i).1 (s.aP i).2).testBit d=true/\w i=((k.fills i).map w).sum+d)
def Hu (k:Wk) (s:SS) (w:Nat->Nat):Prop:=∀ i,i<k.n->Fit k s w i
theorem Bg (k:Wk) (i:Nat):(k.fills i).Nodup:=by
 unfold Wk.fills;exact List.nodup_range.filter _
theorem Fit.congr {w':Nat->Nat} (h:Fit k s w i) (h1:w' i=w i) (h2:∀ x∈k.fills i,w' x=w x):Fit k s w' i:=by
 have e:(k.fills i).map w'=(k.fills i).map w:=List.map_congr_left h2;exact⟨by rw[h1];exact h.1,fun hn=>by rw[h1,e];exact h.2 hn⟩
theorem gK:x∈k.fills i↔x<k.n/\(k.v x).from_=(i:Int):=by
 unfold Wk.fills;rw[List.mem_filter,List.mem_range,beq_iff_eq]
theorem Rz {k:Wk} (hok:k.Ok) {i x:Nat} (hx:x∈k.fills i) (j:Nat):j<k.n->inB k x j=true->inB k i j=true:=by
 induction j using Nat.strongRecOn with
 |ind j ih =>
  intro hj h;have hxn:=gK.1 hx;rw[kJ hok x hj,Bool.or_eq_true,Bool.and_eq_true,beq_iff_eq,decide_eq_true_eq]at h;rw[kJ hok i hj,Bool.or_eq_true,Bool.and_eq_true,beq_iff_eq,decide_eq_true_eq];have h3:=(hok.ves j hj).2.1;rcases h with rfl|⟨h1,h2⟩
  ·refine .inr ⟨by omega,?_⟩;rw[hxn.2,Int.toNat_natCast];exact gq k i
  ·exact .inr ⟨h1,ih _ (by omega) (by omega) h2⟩
theorem Ie {k:Wk} (hok:k.Ok) (i j:Nat):j<k.n->inB k i j=true->j=i\/∃ x∈k.fills i,inB k x j=true:=by
 induction j using Nat.strongRecOn with
 | ind j ih =>
  intro hj h;rw[kJ hok i hj,Bool.or_eq_true,Bool.and_eq_true,beq_iff_eq,decide_eq_true_eq]at h;have h3:=(hok.ves j hj).2.1;rcases h with h|⟨h1,h2⟩
  ·exact .inl h
  ·refine .inr ?_;rcases ih _ (by omega) (by omega) h2 with h4 | ⟨x,hx,h4⟩
   ·exact⟨j,gK.2 ⟨hj,by omega⟩,gq k j⟩
   ·refine⟨x,hx,?_⟩;rw[kJ hok x hj,Bool.or_eq_true,Bool.and_eq_true,decide_eq_true_eq];exact .inr ⟨h1,h4⟩
theorem Qz {k:Wk} (hok:k.Ok) {f:Int} {x y:Nat} (hx:x<k.n) (hy:y<k.n) (hfx:(k.v x).from_=f) (hfy:(k.v y).from_=f) (j:Nat):j<k.n->inB k x j=true->inB k y j=true->x=y:=by
 induction j using Nat.strongRecOn with
 | ind j ih =>
  intro hj h1 h2;have h3:=(hok.ves j hj).2.1;have g1:=h1;have g2:=h2;rw[kJ hok x hj,Bool.or_eq_true,Bool.and_eq_true,beq_iff_eq,decide_eq_true_eq]at g1;rw[kJ hok y hj,Bool.or_eq_true,Bool.and_eq_true,beq_iff_eq,decide_eq_true_eq]at g2;rcases g1 with g1|⟨g1,g3⟩
  ·rcases g2 with g2 | ⟨g2,g4⟩
   ·omega
   ·subst g1;have:=DN hok y _ (by omega) g4;have:=(hok.ves y hy).2.1;omega
  ·rcases g2 with g2 | ⟨g2,g4⟩
   ·subst g2;have:=DN hok x _ (by omega) g3;have:=(hok.ves x hx).2.1;omega
   ·exact ih _ (by omega) (by omega) g3 g4
theorem Hf (hok:k.Ok) (hj:inB k i j=true) (hx:x∈k.fills j):inB k i x=true:=by
 obtain⟨h1,h2⟩:=gK.1 hx;rw[kJ hok i h1,Bool.or_eq_true,Bool.and_eq_true,decide_eq_true_eq];refine .inr ⟨by omega,?_⟩;rw[h2,Int.toNat_natCast];exact hj
noncomputable def glue (k:Wk) (f:List Nat) (W:Nat->Nat->Nat) (w:Nat->Nat) (j:Nat):Nat:=open Classical in if h:∃ x,x∈f/\inB k x j=true then W h.choose j else w j
theorem Qh (hx:x∈f) (hb:inB k x j=true) (hone:∀ y∈f,inB k y j=true->y=x):glue k f W w j=W x j:=by
 unfold glue;have h:∃ x,x∈f/\inB k x j=true:=⟨x,hx,hb⟩;rw[dif_pos h,hone _ h.choose_spec.1 h.choose_spec.2]
theorem Ve (h:∀ x∈f,inB k x j=false):glue k f W w j=w j:=by
 unfold glue;rw[dif_neg];rintro ⟨x,h1,h2⟩;rw[h x h1]at h2;cases h2
theorem GU (hs:s.WF) (h:(s.aK i).testBit m=true):m<=40:=by
 have h1:=hs.fZ i;rcases Nat.lt_or_ge m 41 with h2|h2
 ·omega
 ·have:(s.aK i).testBit m=false:=Nat.testBit_lt_two_pow (Nat.lt_of_lt_of_le h1 (by
   have:(2:Nat) ^ 41<=2 ^ m:=Nat.pow_le_pow_right (by omega) h2;exact this))
  rw[this]at h;cases h
theorem Vy {k:Wk} (hok:k.Ok) {s:SS} (hs:s.WF) (i:Nat):i<k.n->∀ m,((up k s).getD i 0).testBit m=true↔∃ w:Nat->Nat,w i=m/\∀ j,j<k.n->inB k i j=true->Fit k s w j:=by
 have key:∀ d i,k.n - i<=d->i < k.n->∀ m,((up k s).getD i 0).testBit m=true↔∃ w:Nat->Nat,w i=m/\∀ j,j < k.n->inB k i j=true->Fit k s w j:=fun d=>by
  induction d with
  |zero=>exact fun i h1 h2=>by omega
  | succ d ih =>
   intro i h1 hi m;have hfg:=fun x hx=>rV hok (i:=i) (x:=x) hx
   have ihx:∀ x∈k.fills i,∀ m,((up k s).getD x 0).testBit m=true↔∃ w:Nat->Nat,w x=m/\∀ j,j<k.n->inB k x j=true->Fit k s w j:=fun x hx=>by
    have:=hfg x hx;exact ih x (by omega) this.2
   rw[aaT hok s hi];by_cases hf:k.fills i=[]
   ·rw [if_pos hf];constructor
    ·intro h;refine ⟨fun _=>m,rfl,fun j hj hb=>?_⟩;rcases Ie hok i j hj hb with rfl | ⟨x,hx,_⟩
     ·exact⟨h,fun hn=>absurd hf hn⟩
     ·rw[hf]at hx;cases hx
    ·rintro ⟨w,rfl,h⟩;exact(h i hi (gq k i)).1
   ·rw [if_neg hf,Nat.testBit_and,Bool.and_eq_true,Ak];constructor
    ·rintro ⟨hl,h40,a,b,ha,hb,hab⟩;obtain ⟨_,c,hc,hsum⟩:=(MB _ (Bg k i) hf a).1 ha;have hW:∀ x,∃ w:Nat->Nat,x∈k.fills i->w x=c x/\∀ j,j < k.n->inB k x j=true->Fit k s w j:=fun x=>by
      by_cases hx:x∈k.fills i
      ·obtain⟨w,h2,h3⟩:=(ihx x hx _).1 (hc x hx);exact⟨w,fun _=>⟨h2,h3⟩⟩
      ·exact⟨fun _=>0,fun h=>absurd h hx⟩
     have hone:∀ {x j},x∈k.fills i->j<k.n->inB k x j=true->∀ y∈k.fills i,inB k y j=true->y=x:=fun {x j} hx hj hb y hy hb' =>
      Qz hok (gK.1 hy).1 (gK.1 hx).1 (gK.1 hy).2 (gK.1 hx).2 j hj hb' hb
     let W:Nat->Nat->Nat:=fun x=>Classical.choose (hW x)
     have hWs:∀ x∈k.fills i,W x x=c x/\∀ j,j<k.n->inB k x j=true->Fit k s (W x) j:=fun x hx=>Classical.choose_spec (hW x) hx
     have gin:∀ {x j},x∈k.fills i->j<k.n->inB k x j=true->glue k (k.fills i) W (fun _=>m) j=W x j:=fun hx hj hb=>Qh hx hb (hone hx hj hb)
     have gi:glue k (k.fills i) W (fun _=>m) i=m:=Ve fun x hx=>by
      cases hh:inB k x i
      ·rfl
      ·have:=DN hok x i hi hh;have:=hfg x hx;omega
     refine⟨glue k (k.fills i) W (fun _=>m),gi,fun j hj hb=>?_⟩;rcases Ie hok i j hj hb with rfl|⟨x,hx,hbx⟩
     ·refine ⟨by rw [gi];exact hl,fun _=>⟨b,by assumption,?_⟩⟩;have e:(k.fills j).map (glue k (k.fills j) W fun _=>m)=(k.fills j).map c:=List.map_congr_left fun x hx=>by
       rw[gin hx (hfg x hx).2 (gq k x),(hWs x hx).1]
      rw[gi,e,<- hsum];exact hab.symm
     ·refine ((hWs x hx).2 j hj hbx).congr (gin hx hj hbx) fun y hy=>?_
      exact gin hx (gK.1 hy).1 (Hf hok hbx hy)
    ·rintro ⟨w,rfl,h⟩;obtain⟨hl,hd⟩:=h i hi (gq k i);obtain⟨b,hb,hab⟩:=hd hf;have h40:=GU hs hl;refine⟨hl,h40,((k.fills i).map w).sum,b,(MB _ (Bg k i) hf _).2 ⟨by omega,w,fun x hx=>?_,rfl⟩,hb,hab.symm⟩;exact(ihx x hx _).2 ⟨w,rfl,fun j hj hbx=>h j hj (Rz hok hx j hj hbx)⟩
 exact key _ i (Nat.le_refl _)
theorem Yf {k:Wk} (hok:k.Ok) (i:Nat):i<k.n->∃ r,r<k.n/\(k.v r).from_=-1/\inB k r i=true:=by
 induction i using Nat.strongRecOn with
 |ind i ih =>
  intro hi;obtain⟨o1,o2,_⟩:=hok.ves i hi;by_cases h:(k.v i).from_=-1
  ·exact⟨i,hi,h,gq k i⟩
  ·obtain⟨r,h1,h2,h3⟩:=ih (k.v i).from_.toNat (by omega) (by omega);refine⟨r,h1,h2,?_⟩;rw[kJ hok r hi,Bool.or_eq_true,Bool.and_eq_true,decide_eq_true_eq];exact .inr ⟨by omega,h3⟩
theorem QS (hok:k.Ok) (hs:s.WF):can k s=true↔∃ w,Hu k s w:=by
 rw[XA];constructor
 ·intro h;let R:=(List.range k.n).filter fun r=>(k.v r).from_ == -1
  have hR:∀ {r},r∈R↔r<k.n/\(k.v r).from_=-1:=by simp[R]
  have hW:∀ x,∃ w:Nat->Nat,x<k.n->∀ j,j<k.n->inB k x j=true->Fit k s w j:=fun x=>by
   by_cases hx:x<k.n
   ·obtain⟨m,hm⟩:=Nat.exists_testBit_of_ne_zero (h x hx);obtain⟨w,_,h2⟩:=(Vy hok hs x hx m).1 hm;exact⟨w,fun _=>h2⟩
   ·exact⟨fun _=>0,fun h=>absurd h hx⟩
  let W:Nat->Nat->Nat:=fun x=>Classical.choose (hW x)
  have hWs:∀ x,x<k.n->∀ j,j<k.n->inB k x j=true->Fit k s (W x) j:=fun x hx=>Classical.choose_spec (hW x) hx
  refine⟨glue k R W fun _=>0,fun j hj=>?_⟩;obtain⟨r,h1,h2,h3⟩:=Yf hok j hj;have gin:∀ {j},j<k.n->inB k r j=true->glue k R W (fun _=>0) j=W r j:=fun hj hb=>Qh (hR.2 ⟨h1,h2⟩) hb fun y hy hb'=>Qz hok (hR.1 hy).1 h1 (hR.1 hy).2 h2 _ hj hb' hb
  exact(hWs r h1 j hj h3).congr (gin hj h3) fun y hy=>gin (gK.1 hy).1 (Hf hok h3 hy)
 ·rintro ⟨w,h⟩ i hi h0;have:=(Vy hok hs i hi (w i)).2 ⟨w,rfl,fun j hj _=>h j hj⟩;rw[h0,Nat.zero_testBit]at this;cases this
theorem zi (n x:Nat) (hn:n<=40):(dO (n:Int) (n:Int)).testBit x=true↔x=n:=by
 rw[wI];simp only[Bool.and_eq_true,decide_eq_true_eq];omega
theorem AV (hs:s.WF) (h6:k.n<=6) (hi:i<k.n) (hn:n<=40) (w:Nat->Nat):Hu k (s.weighed i n) w↔Hu k s w/\w i=n:=by
 have hl:=hs.lim;have e:∀ j,(s.weighed i n).aK j=if i=j then s.aK i &&& dO n n else s.aK j:=fun j=>fC _ _ _ _ _ (by omega)
 constructor
 ·intro h;refine ⟨fun j hj=>?_,?_⟩
  ·obtain ⟨h1,h2⟩:=h j hj;refine ⟨?_,h2⟩;rw [e] at h1;by_cases hij:i=j
   ·subst hij;rw[if_pos rfl,Nat.testBit_and,Bool.and_eq_true]at h1;exact h1.1
   ·rw[if_neg hij]at h1;exact h1
  ·obtain⟨h1,_⟩:=h i hi;rw[e,if_pos rfl,Nat.testBit_and,Bool.and_eq_true]at h1;exact(zi n _ hn).1 h1.2
 ·rintro ⟨h,hw⟩ j hj;obtain ⟨h1,h2⟩:=h j hj;refine ⟨?_,h2⟩;rw [e];by_cases hij:i=j
  ·subst hij;rw[if_pos rfl,Nat.testBit_and,Bool.and_eq_true];exact⟨h1,(zi n _ hn).2 hw⟩
  ·rw[if_neg hij];exact h1
theorem vZ (hok:k.Ok) (hs:s.WF) (hi:i<k.n) (hn:n<=40):can k (s.weighed i n)=true↔∃ w,Hu k s w/\w i=n:=by
 rw[QS hok (hs.weighed i n)];constructor
 ·rintro ⟨w,h⟩;exact⟨w,(AV hs hok.le hi hn w).1 h⟩
 ·rintro ⟨w,h⟩;exact⟨w,(AV hs hok.le hi hn w).2 h⟩
def Wk.plus (k:Wk) (r:je):Wk:=⟨k.ves,k.rdg ++ [r]⟩
theorem yT (hok:k.Ok) (h5:k.rdg.length<=5) {r:je} (hr:r.Ok k.n):(k.plus r).Ok:=by
 refine⟨hok.pos,hok.le,hok.ves,?_,fun i hi=>?_⟩
 ·show(k.rdg ++ [r]).length<=6;simp;omega
 ·show ((k.rdg ++ [r]).getD i default).Ok k.n;have hi':i < (k.rdg ++ [r]).length:=hi;rw [List.length_append,List.length_singleton] at hi';rw [List.getD_eq_getElem?_getD];by_cases h:i < k.rdg.length
  ·rw[List.getElem?_append_left h,<- List.getD_eq_getElem?_getD];exact hok.rdg i h
  ·obtain rfl:i=k.rdg.length:=by omega
   simpa using hr
theorem TQ (x:Nat) (l:List je) (m:Nat):(BD x l).testBit m=true↔x.testBit m=true/\∀ r∈l,(dO (r.shown-r.err) (r.shown+r.err)).testBit m=true:=by
 unfold BD
 induction l generalizing x with
 |nil=>simp
 |cons r l ih =>
  rw[List.foldl_cons,ih,Nat.testBit_and,Bool.and_eq_true,and_assoc];simp
theorem OJ (k:Wk) (ws:List Int) (h:∀ x,x<k.n->0<=ws.getD x 0) (i:Nat):sumF (fun j=>(k.v j).from_) k.n ws i=(((k.fills i).map fun x=>(ws.getD x 0).toNat).sum:Nat):=by
 have key:∀ n,n<=k.n->((List.range n).map fun j=>if (k.v j).from_=(i:Int) then ws.getD j 0 else 0).sum=((((List.range n).filter fun j=>(k.v j).from_ == (i:Int)).map fun x=>(ws.getD x 0).toNat).sum:Nat):=fun n=>by
  induction n with
  |zero=>intro _;rfl
  | succ n ih =>
   intro hn;rw[List.range_succ,List.map_append,List.sum_append,ih (by omega),List.filter_append,List.map_append,List.sum_append];have:=h n (by omega);by_cases e:(k.v n).from_=(i:Int)
   ·have hp:((k.v n).from_ == (i:Int))=true:=by simpa using e
    rw[show([n].filter fun j=>(k.v j).from_ == (i:Int))=[n]from List.filter_cons_of_pos (p:=fun j=>(k.v j).from_ == (i:Int)) hp];simp only[List.map_cons,List.map_nil,List.sum_cons,List.sum_nil,if_pos e];omega
   ·have hp:¬ ((k.v n).from_ == (i:Int))=true:=by simpa using e
    rw[show([n].filter fun j=>(k.v j).from_ == (i:Int))=[]from List.filter_cons_of_neg (p:=fun j=>(k.v j).from_ == (i:Int)) hp];simp only[List.map_cons,List.map_nil,List.sum_cons,List.sum_nil,if_neg e];omega
 exact key k.n (Nat.le_refl _)
theorem adq (hok:k.Ok) {ws:List Int} (h:Truth k ws):Hu k (aN k aC) fun i=>(ws.getD i 0).toNat:=fun i hi=>by
 have hro:=h.room i hi;have hvo:=hok.ves i hi;refine⟨?_,fun hf=>?_⟩
 ·rw[Dh hok.le (yF hok) aC hi,TQ,wI];have h40:(k.v i).room<=40:=hvo.2.2.2.1;refine⟨by simp only[Bool.and_eq_true,decide_eq_true_eq];omega,fun r hr=>?_⟩;obtain⟨hr1,hr2⟩:=List.mem_filter.1 hr;simp only[aC,Bool.not_false,Bool.true_and,beq_iff_eq]at hr2;have h3:=h.rdg r hr1;rw[hr2]at h3;rw[wI];simp only[Bool.and_eq_true,decide_eq_true_eq];omega
 ·have hn:∀ x,x < k.n->0<=ws.getD x 0:=fun x hx=>(h.room x hx).1
  obtain⟨x,hx⟩:=List.exists_mem_of_ne_nil _ hf;obtain⟨hx1,hx2⟩:=gK.1 hx;have hl:=h.loss i hi ⟨x,hx1,hx2⟩;rw[OJ k ws hn]at hl;have hlo:0<=(k.v i).lo:=hvo.2.2.2.2.1;have hhi:(k.v i).hi<=20:=hvo.2.2.2.2.2.2.2.1;have hw:=hn i hi;generalize (((k.fills i).map fun x=>(ws.getD x 0).toNat).sum:Nat)=S at hl;refine⟨(ws.getD i 0-S).toNat,?_,by show(ws.getD i 0).toNat=S+_;omega⟩;rw[rW k hok,if_pos hi,wI];simp only[Bool.and_eq_true,decide_eq_true_eq];omega
theorem JY {k:Wk} {s:SS} {v m:Nat} (M:Nat) (hm:m<M) (h:can k (s.weighed v (m:Nat))=true):(bZ k s v M).1<=m/\(m:Int)<=(bZ k s v M).2:=by
 induction M with
 |zero=>omega
 | succ M ih =>
  rw[bZ];by_cases e:m=M
  ·subst e;rw[if_pos h];simp only;omega
  ·have:=ih (by omega);split
   ·simp only;omega
   ·exact this
theorem NV {v:Nat} (hm:m<=40) (h:can k (s.weighed v (m:Nat))=true):(aO k s v).1<=m/\(m:Int)<=(aO k s v).2:=JY 41 (by omega) h
def Wk.cut (k:Wk) (v M:Nat):Wk:=(k.branch v).plus ⟨0,0,(M:Int),0⟩
theorem Qu (hok:k.Ok) (h:Hu k (aN k aC) w):(settle k (aN k aC)).isNone=true:=(QS hok (gG _ _)).2 ⟨w,h⟩
end Go.Wg
namespace Go.Mm
open Go
variable {t ty:TypeId} {x:Operand} {b j k n:Nat} {cs:List Value}
variable {P:Program} {w0:World} {X:List Nat} {V:View} {L:List dF} {w:World}
variable {l:List Oper} {md:Region.Mode} {o:Oper} {a:Act} {Q:Exit->Act->World->Prop} {S:World->Prop} {fuel:Nat} {listed:Array Bool}
theorem V7 (i j k:Nat) (hr:Region.ready md l.toArray listed=[i,j,k])
 (h1:wpOp P l.toArray Q i (fun a' w'=>S w'/\wpAnyH P md l.toArray Q S fuel (listed.setIfInBounds i true) a' w') a w)
 (h2:wpOp P l.toArray Q j (fun a' w'=>S w'/\wpAnyH P md l.toArray Q S fuel (listed.setIfInBounds j true) a' w') a w)
 (h3:wpOp P l.toArray Q k (fun a' w'=>S w'/\wpAnyH P md l.toArray Q S fuel (listed.setIfInBounds k true) a' w') a w):wpAnyH P md l.toArray Q S (fuel+1) listed a w :=
 wpAnyH_all hr (by simp) fun x hx=>by
  simp only[List.mem_cons,List.not_mem_nil,or_false]at hx;rcases hx with rfl|rfl|rfl
  ·exact h1
  ·exact h2
  ·exact h3
theorem DZ (i:Nat) (hi₀:l[i]? = some o) (hw:Region.wanted o (yielded l.toArray a.tmps)=true)
 (h:∃ f args,(execOp a.eval o).run P w=.ok (.enter f args) w/\Calls P f args w fun e w'=>∃ v,e=.returned v/\∀ a' l',a.put o.dst v=a'->listed.setIfInBounds i true=l'->S w'/\wpAnyH P md l.toArray Q S fuel l' a' w') :
  wpOp P l.toArray Q i (fun a' w'=>S w'/\wpAnyH P md l.toArray Q S fuel (listed.setIfInBounds i true) a' w') a w:=by
 obtain⟨f,args,hr',hc⟩:=h;exact yB (R:=fun v w'=>∀ a' l',a.put o.dst v=a'->listed.setIfInBounds i true=l'->S w'/\wpAnyH P md l.toArray Q S fuel l' a' w') (jV hi₀) hw hr' hc fun v w' h=>h _ _ rfl rfl
theorem oZ (i:Nat) (hr:Region.ready md l.toArray listed=[i]) (hi₀:l[i]? = some o) (hw:Region.wanted o (yielded l.toArray a.tmps)=true)
 (h:∃ f args,(execOp a.eval o).run P w=.ok (.enter f args) w/\Calls P f args w fun e w'=>∃ v,e=.returned v/\∀ a' l',a.put o.dst v=a'->listed.setIfInBounds i true=l'->S w'/\wpAnyH P md l.toArray Q S fuel l' a' w'):wpAnyH P md l.toArray Q S (fuel+1) listed a w :=
 mG hr (DZ i hi₀ hw h)
theorem WI (i:Nat) (hi₀:l[i]? = some o) (hS:St w0 X V L w) (hw:Region.wanted o (yielded l.toArray a.tmps)=true) (ho:o.op=.load ty x)
 (hx:a.eval x=.pointer (some ⟨b,k,none⟩)) [hj:Hs L b j t cs] [hty:jS P ty n]
 (h:∃ vs,PartOf cs k n vs/\∀ a' l',a.put o.dst (.agg vs.toArray)=a'->listed.setIfInBounds i true=l'->∀ w',St w0 X V L w'->S w'/\wpAnyH P md l.toArray Q S fuel l' a' w') :
  wpOp P l.toArray Q i (fun a' w'=>S w'/\wpAnyH P md l.toArray Q S fuel (listed.setIfInBounds i true) a' w') a w:=by
 obtain⟨v,hv,h⟩:=h;exact oO (jV hi₀) hw (iy ho hx hty.ok hv.len (lK (hS.at hj.ok) hv.part)) (h _ _ rfl rfl w hS)
theorem YB (i:Nat) (hr:Region.ready md l.toArray listed=[i]) (hi₀:l[i]? = some o) (hS:St w0 X V L w) (hw:Region.wanted o (yielded l.toArray a.tmps)=true) (ho:o.op=.load ty x)
 (hx:a.eval x=.pointer (some ⟨b,k,none⟩)) [hj:Hs L b j t cs] [hty:jS P ty n]
 (h:∃ vs,PartOf cs k n vs/\∀ a' l',a.put o.dst (.agg vs.toArray)=a'->listed.setIfInBounds i true=l'->∀ w',St w0 X V L w'->S w'/\wpAnyH P md l.toArray Q S fuel l' a' w') :
  wpAnyH P md l.toArray Q S (fuel+1) listed a w:=mG hr (WI i hi₀ hS hw ho hx h)
end Go.Mm
namespace Go.Proofs.YtjjmefieegcddaaDoor
open Go.RowKit Go.Wg Go.Mm
variable {o:Oper} {ρ:Operand->Value} {x y:Operand} {e:TypeId} {b b8 key m n p:Nat} {v:Value} {w':World} {D l:List Nat} {k:Wk} {s:SS}
variable {w:World} {V:View} {w0:World} {L:List dF}
theorem ql {X:List Nat} (hS:St w0 X V L w) {sl:Operand} {t:TypeId} {size:Nat} (ho:o.op=.call {callee:=.builtin .append,args:=#[sl,x],argTypes:=#[t,t]}) [ht:Zz Tryd.prog t e size]
 {j:Nat} {xs:List Value} [hj:Hr L v j e size n xs] (hv:ρ sl=v) {a0:Option Addr} {c:Nat} {news:List Value} (hx:ρ x=.slice a0 m c) (hr:0<m->∃ b off,a0=some ⟨b,off,none⟩/\V.Range b off news) (hm:news.length=m * size) (h1:∀ u∈news,u.oneCell'=true) (hn:n+m<=1000) :
  ∃ v' w',(execOp ρ o).run Tryd.prog w=.ok (.value v') w'/\St w0 X V (L.set j (.row v' e size (n+m) (xs ++ news))) w':=by
 by_cases h0:0<m
 ·obtain⟨b,off,rfl,hb⟩:=hr h0;exact F6 hS ho ht.ok hj.ok hv hb hx hm h1 hn
 ·obtain rfl:m=0:=by omega
  have hne:news=[]:=by simpa using hm
  subst hne;have hts:=ht.ok;unfold Yv at hts;simp only[Bool.and_eq_true]at hts;obtain⟨⟨ht1,ht2⟩,ht3⟩:=hts;have hu:Tryd.prog.underlying t=some (.slice e):=by
   cases hd:Tryd.prog.underlying t with
   |none=>rw[hd]at ht1;cases ht1
   |some d=>rw[hd]at ht1;cases d<;>simp_all
  cases hq:Tryd.prog.info? e with
  |none=>rw[hq]at ht2;cases ht2
  | some q =>
   have hsrc:Src Tryd.prog q.size t (.slice a0 0 c) 0 [] w:=by
    cases a0 with
    |none=>exact Src.ofNil w hu c
    |some a0=>exact Src.ofSlice w hu a0 0 c [] (by simp) (fun j u h=>by simp at h) (fun u h=>nomatch h)
   obtain⟨_,hown⟩:=hS.wu hj.ok;have hvs:∃ base cap,v=.slice base n cap/\n<=cap:=by
    rcases hown with⟨rfl,h0⟩|⟨g,cap,_,rfl,_,_,h2,_⟩
    ·exact⟨none,0,by rw[h0],by omega⟩
    ·exact⟨_,cap,rfl,h2⟩
   obtain⟨base,cap,hvv,hle⟩:=hvs;refine⟨v,w,?_,?_⟩
   ·have hr':=run_append_nothing w t t o.type e q hu hq base n cap hle _ hsrc;unfold execOp;simp only[ho,resolve,invoke,builtin,Sem.run_bind,Sem.run_pure,Result.andThen_ok,List.map_toArray,List.map_cons,List.map_nil,hv,hx,hvv,hr']
   ·rw [List.append_nil,Nat.add_zero];have:L.set j (.row v e size n xs)=L:=by
     obtain⟨hjl,hje⟩:=List.getElem?_eq_some_iff.1 hj.ok;rw[<- hje];exact List.set_getElem_self hjl
    rw[this];exact hS
open Go.Wk
open Go Go.Sr Go.Ph Go.Tm Go.Conc
noncomputable def B45:Code:=match Tryd.f45.body with|some c=>c|none=>.skip
noncomputable def adG:Array Oper:=match Tryd.f45.body with|some (.seq _ (.seq _ (.seq _ (.seq _ (.seq (.region _ o _) _)))))=>o|_=>#[]
theorem adV (vv rv:Value) (k:Wk) (hk:iJ V vv rv k) (hG:GV V) (hV:V.In w) (hb:aS k []=0) (hst:Go.Wg.settle k (aN k aC)=none) :
  fA Tryd.prog [.inRegion adG [3,4,5],.code .ret] (fun a w'=>∃ p V' D b1 b2 b3,(∃ x5 x7 x8 x9 x10 x11,a=⟨#[.agg #[vv,rv],ptr b1,ptr b2,ptr b3,ptr p,x5,.agg #[vv,rv],x7,x8,x9,x10,x11,undef,undef,ptr p,ptr p,.agg (dJ (aN k aC)).toArray,undef],[dC b3]⟩) /\
    jh V' p k/\Closed V' D/\p∈D/\St w [] V' [.blk b3 38 [.int .i64 0],.blk b2 27 [.int .i64 0,.int .i64 0]] w')
   [.code B45] {tmps:=#[.agg #[vv,rv]] ++ Array.replicate 17 undef,defers:=[]} w:=by
 have hk0:=hk;obtain⟨va,vcap,rfl,hvc,hvm,hve⟩:=hk0.ves.is;obtain⟨ra,rcap,rfl,hrc,hrm,hre⟩:=hk0.rdg.is;have hS:=St.start w V hV;clear hk0 hve hre;have hok:=dP hb;have hcan:can k (aN k aC)=true:=by unfold can;rw[hst];rfl
 replace hst:=aj hst;replace hcan:=aj hcan;replace hb:=aj hb;simp only[Array.replicate_succ,Array.replicate_zero,List.push_toArray,List.append_toArray,List.nil_append,List.cons_append];unfold ptr;refine au (aA ?_);go_wp2_with (first|(refine yb 1 ?_;clear hS;intro b1 w' hS)|(refine ya 2 ?_;clear hS;intro b2 w' hS)|(refine ya 3 ?_;clear hS;intro b3 w' hS))
 refine au (aA ?_);go_wp2_with (fail)
 refine au (aA ?_);go_wp2_with (first|(refine ym ?_;clear hS;intro w' hS)|(refine ys ?_;clear hS;intro w' hS)|(go_at_call 77;refine zG hS hk pG (by simp) hb.out ?_;clear hS;intro p V' w' D hVV hcel hD hpD hS;have hG':GV V':=hG.mono hVV))
 refine au (au (aA ?_));go_wp2_with (refine yy ?_;clear hS;intro w' hS)
 refine dZ (t:=false) rfl (lu (au (ig ?_)));refine cO (i:=0) (v:=.pointer (some ⟨p,0,none⟩)) (w':=w') rfl rfl rfl ?_;refine cO (i:=1) (v:=.pointer (some ⟨p,0,none⟩)) (w':=w') rfl rfl rfl ?_;refine rZ (i:=2) rfl rfl (run_call_body rfl Tryd.func83 zk rfl) ?_;simp only[List.map_toArray,List.map_cons,List.map_nil];show Calls Tryd.prog 83 #[ptr p] w' _;refine(y8 V' p k hcel hok hcan.out _ (St.view hS)).mono ?_;rintro e w2 ⟨rfl,hkp⟩;refine⟨_,rfl,?_⟩;replace hS:=hS.kp hkp;exact bG (tgt:=[.inRegion adG [3,4,5],.code .ret]) ⟨p,V',D,b1,b2,b3,⟨_,_,_,_,_,_,rfl⟩,hcel,hD,hpD,hS.sub (List.Sublist.cons_cons _ (List.Sublist.cons_cons _ (List.Sublist.cons _ (List.Sublist.refl _))))⟩
theorem aed {w0:World} {V':View} {b1 b2 b3:Nat} {r:Int × Int} {x0 x5 x6 x7 x8 x9 x10 x11 x14 x15 x16:Value} (hS:St w0 [] V' [.blk b3 38 [.int .i64 0],.blk b2 27 [.int .i64 0,.int .i64 0]] w) :
  fA Tryd.prog [.code .ret] (fun a w'=>a=⟨#[x0,ptr b1,ptr b2,ptr b3,ptr p,x5,x6,x7,x8,x9,x10,x11,undef,undef,x14,x15,x16,aJ r],[dC b3]⟩/\St w0 [] V' [.blk b3 38 [.int .i64 0],.blk b2 27 [.int .i64 r.1,.int .i64 r.2]] w')
   [.inRegion adG [4,5],.code .ret] ⟨#[x0,ptr b1,ptr b2,ptr b3,ptr p,x5,x6,x7,x8,x9,x10,x11,undef,undef,x14,x15,x16,aJ r],[dC b3]⟩ w:=by
 refine xK hS (i:=4) (vs:=[.int .i64 r.1,.int .i64 r.2]) rfl rfl rfl (j:=1) (i':=0) (n:=2) rfl rfl rfl (by simp[Value.oneCell']) zk rfl (by simp) fun w1 hS1=>?_
 refine D6 hS1 (i:=5) (v:=.int .i64 0) rfl rfl rfl (j:=0) (i':=0) rfl rfl rfl rfl zk (by simp) fun w2 hS2=>?_
 exact dH (bG (tgt:=[.code .ret]) ⟨rfl,hS2⟩)
def adw (k:Wk):(Int × Int) × Int :=
 if aS k []=0 then(if (Go.Wg.settle k (aN k aC)).isNone then(dW k (aN k aC) true,0) else((0,0),9)) else((0,0),aS k [])
theorem aeh (vv rv:Value) (k:Wk) (hk:iJ V vv rv k) (hG:GV V) (hV:V.In w) (hbs:¬ (aS k []=0/\Go.Wg.settle k (aN k aC)=none)) :
  Calls Tryd.prog 45 #[.agg #[vv,rv]] w fun r w'=>r=.returned (.tuple #[aJ (adw k).1,.int .i64 (adw k).2])/\Kp w w':=by
 have hk0:=hk;obtain⟨va,vcap,rfl,hvc,hvm,hve⟩:=hk0.ves.is;obtain⟨ra,rcap,rfl,hrc,hrm,hre⟩:=hk0.rdg.is;have hS:=St.start w V hV;clear hk0 hve hre;by_cases hb:aS k []=0
 ·have hok:=dP hb;cases hst:Go.Wg.settle k (aN k aC) with
  |none=>exact(hbs ⟨hb,hst⟩).elim
  |some i =>
   have hC:adw k=((0,0),9):=by unfold adw;rw[if_pos hb,hst];rfl
   rw[hC];simp only;replace hC:=aj hC;replace hst:=aj hst;replace hb:=aj hb;clear hbs
   go_enter_defers Tryd.func45,Tryd.ntmps45
   go_wp2_with (first|(refine ym ?_;clear hS;intro w' hS)|(refine ys ?_;clear hS;intro w' hS)|(refine yb 1 ?_;clear hS;intro b1 w' hS)|(refine ya 2 ?_;clear hS;intro b2 w' hS)|(refine ya 3 ?_;clear hS;intro b3 w' hS)|(go_at_call 77;refine eG hS hk pG (by simp) hb.out ?_;clear hS;intro p V' w' hVV hcel hS;have hG':GV V':=hG.mono hVV)|(go_at_call 83;refine nH hS (zN V' p k hcel hok i hst.out _ (St.view hS)) ?_;clear hS;intro w' hS))
   (refine vJ hS ?_;clear hS;intro w' hS;(try simp only[sE]at hS);refine⟨_,by exact dA (r1:=.cell 2 27) (r2:=.cell 3 38) zk (by exact rX hS rfl zd) (by exact zA hS rfl zd),?_⟩)
   exact⟨rfl,hS.bM⟩
 ·clear hbs;have hC:adw k=((0,0),aS k []):=by unfold adw;rw [if_neg hb]
  rw[hC];simp only;have hb':(aS k [] == 0)=false:=by rw[beq_eq_false_iff_ne];exact hb
  have hE:Go.RowKit.Hid (∃ e,aS k []=e):=aj ⟨_,rfl⟩;obtain⟨e,he⟩:=hE.out;rw[he]at hb' |-;replace hC:=aj hC;replace he:=aj he
  go_enter_defers Tryd.func45,Tryd.ntmps45
  go_wp2_with (first|(refine ym ?_;clear hS;intro w' hS)|(refine ys ?_;clear hS;intro w' hS)|(refine yb 1 ?_;clear hS;intro b1 w' hS)|(refine ya 2 ?_;clear hS;intro b2 w' hS)|(refine ya 3 ?_;clear hS;intro b3 w' hS)|(go_at_call 77;refine fF hS hk pG (by simp) hb ?_;rw[he.out];clear hS;intro w' hS))
  (refine bF (S:=(St w [] V [.blk b3 38 [.int .i64 e]])) [false,false,false,false] rfl zk ?_;replace hS:=St.eY hS;(refine yh [.p 0,.a 1] ?_);((refine wQ 2 zk rfl hS rfl  rfl rfl ?_;refine⟨_,zd,?_⟩);clear hS;refine zH ?_;intro w' hS;(try simp only[sE]at hS);refine⟨(St.aG hS),?_⟩);((refine jl 3 zk rfl hS rfl  rfl rfl ?_;refine⟨_,zd,?_⟩);clear hS;refine zH ?_;intro w' hS;(try simp only[sE]at hS);refine⟨(St.aG hS),?_⟩);refine wpAnyH_done zk ?_ _)
  go_wp2_with (fail)
  (refine iF hS ?_;clear hS;intro w' hS;(try simp only[sE]at hS);refine⟨_,by exact dA (r1:=.cell 2 27) (r2:=.cell 3 38) zk (by exact rX hS rfl zd) (by exact zA hS rfl zd),?_⟩)
  exact⟨by rfl,(hS.bM)⟩
theorem aez (vv rv:Value) (k:Wk) (hk:iJ V vv rv k) (hG:GV V) (hV:V.In w) (hh:ay OC w) :
  kL Tryd.prog 45 #[.agg #[vv,rv]] w fun r w'=>r=.returned (.tuple #[aJ (adw k).1,.int .i64 (adw k).2])/\Kp w w':=by
 by_cases hbs:aS k []=0/\Go.Wg.settle k (aN k aC)=none
 ·obtain ⟨hb,hst⟩:=hbs;have hC:adw k=(dW k (aN k aC) true,0):=by unfold adw;rw [if_pos hb,hst];rfl
  rw[hC];have hok:=dP hb;refine jD Tryd.func45 (show Tryd.f45.body=some B45 from rfl) fun cs b hbf hbk hbr=>?_
  have e17:Tryd.f45.ntmps-(#[.agg #[vv,rv]]:Array Value).size=17:=by kernel_rfl
  rw[e17];obtain⟨tm0,htm⟩:∃ tm0,#[Value.agg #[vv,rv]] ++ Array.replicate 17 undef=tm0:=⟨_,rfl⟩;rw[htm];have hsk:uw 45 (b.at {tmps:=tm0,defers:=[]} [.code B45]) []:=by
   refine⟨⟨fun x hx=>?_,(fun d hd=>nomatch hd),.inl hbk⟩,rfl,hbk,hbf⟩;have:x=.code B45:=by simpa[Frame.at]using hx
   subst this;exact(show bY true B45=true by kernel_rfl)
  have hio:(adG.all fun o=>qj true o.op)=true:=by kernel_rfl
  have hdC:∀ b3,iZ (dC b3):=fun b3=>by simp[iZ,dC]
  refine yE lT hsk hh (fun a w' τ d h=>?_) (fun τ d=>?_) ?_ (tgt:=[.inRegion adG [3,4,5],.code .ret]) (S:=fun a w'=>∃ p V' D b1 b2 b3,(∃ x5 x7 x8 x9 x10 x11,a=⟨#[.agg #[vv,rv],ptr b1,ptr b2,ptr b3,ptr p,x5,.agg #[vv,rv],x7,x8,x9,x10,x11,undef,undef,ptr p,ptr p,.agg (dJ (aN k aC)).toArray,undef],[dC b3]⟩) /\
    jh V' p k/\Closed V' D/\p∈D/\St w [] V' [.blk b3 38 [.int .i64 0],.blk b2 27 [.int .i64 0,.int .i64 0]] w')
  ·obtain⟨p,V',D,b1,b2,b3,h1,h2,h3,h4,h5⟩:=h;exact⟨p,V',D,b1,b2,b3,h1,h2,h3,h4,h5.re1 τ d⟩
  ·rw[<- htm];refine(adV (w:=w.re τ d) vv rv k hk hG hV hb hst).mono ?_;rintro a w' ⟨p,V',D,b1,b2,b3,h1,h2,h3,h4,h5⟩;exact⟨p,V',D,b1,b2,b3,h1,h2,h3,h4,h5.re0⟩
  ·rintro a' wA ⟨p,V',D,b1,b2,b3,⟨x5,x7,x8,x9,x10,x11,rfl⟩,⟨ts,vv',rv',hcel⟩,hD,hpD,hS⟩ hhA _;have htot:=QA hcel hok (aN k aC) (gG _ _) (QU k hok aC) (fun i=>Int.le_trans (Jy k hok aC i) (by decide)) true hD hpD hS.view hhA;refine Ou lT (i:=3) (o:=adG[3]!) (r:=true) rfl rfl (by rw [hbk];decide) rfl hhA (fun _ _ _=>trivial) fun d=>?_
   rw[run_call_body rfl Tryd.func97 zk rfl];intro hhd;simp only[List.map_toArray,List.map_cons,List.map_nil];have hat:∀ {Q:Goroutine->World->Prop} {g:Goroutine},kU Tryd.prog g wA Q->kU Tryd.prog g (wA.at d) Q:=fun h=>h.at
   refine hat (xI (i:=3) (o:=adG[3]!) rfl htot (fun v w1 ⟨hv,hk1⟩ hh1=>?_) fun ch w1 ⟨hv,_⟩ _=>nomatch hv);cases hv;replace hS:=hS.kp hk1;show kU Tryd.prog (G (b.at ⟨#[.agg #[vv,rv],ptr b1,ptr b2,ptr b3,ptr p,x5,.agg #[vv,rv],x7,x8,x9,x10,x11,undef,undef,ptr p,ptr p,.agg (dJ (aN k aC)).toArray,aJ (dW k (aN k aC) true)],[dC b3]⟩ [.inRegion adG [4,5],.code .ret]) cs) w1 _;refine yE lT (f0:=45) ⟨⟨fun x hx=>?_,fun d hd=>?_,.inl hbk⟩,rfl,hbk,hbf⟩ hh1 (fun a w' τ d h=>⟨h.1,h.2.re1 τ d⟩) (fun τ d=>aed (hS.re1 τ d)) ?_
   ·have:x=.inRegion adG [4,5]\/x=.code .ret:=by simpa [Frame.at] using hx
    rcases this with rfl|rfl
    ·exact hio
    ·exact(show bY true .ret=true from rfl)
   ·have:d=dC b3:=by simpa [Frame.at] using hd
    subst this;exact hdC b3
   ·rintro a' w2 ⟨rfl,hS2⟩ hh2 _;refine CV ?_;refine (Bq (fr:={ b.at ⟨#[.agg #[vv,rv],ptr b1,ptr b2,ptr b3,ptr p,x5,.agg #[vv,rv],x7,x8,x9,x10,x11,undef,undef,ptr p,ptr p,.agg (dJ (aN k aC)).toArray,aJ (dW k (aN k aC) true)],[dC b3]⟩ [.code .ret] with mode:=.returning }) lT xM (fun w h=>nomatch h.1) (fn:=Tryd.f45) ⟨⟨fun x hx=>?_,fun d hd=>?_,.inl hbk⟩,rfl,hbk,hbf⟩ Tryd.func45 hh2 rfl (fun τ d=>?_) cs)
    ·have:x=.code .ret:=by simpa [Frame.at] using hx
     subst this;exact(show bY true .ret=true from rfl)
    ·have:d=dC b3:=by simpa [Frame.at] using hd
     subst this;exact hdC b3
    ·refine iF (R:=fun r w'=>r=.returned (.tuple #[aJ (dW k (aN k aC) true),.int .i64 0])/\Kp w w') (hS2.re1 τ d) fun w3 hS3=>⟨_,dA (r1:=.cell 2 27) (r2:=.cell 3 38) zk (Aa hS3 (n:=2) 1 rfl rfl zk rfl rfl) (AO hS3 0 rfl rfl zk rfl),rfl,hS3.bM⟩
 ·refine uF lT xM (fun w h=>nomatch h.1) hh fun τ d=>?_
  exact(aeh (w:=w.re τ d) vv rv k hk hG hV hbs).mono fun e w' h=>⟨h.1,⟨h.2.os,h.2.output,h.2.size,h.2.old⟩⟩
def jk (w:World) (b n:Nat) (l:List Nat):Prop :=
 ∃ D:DataW Nat,Go.Maps.IsMap D/\w.ownsMap Tryd.prog 95 (plainElem Tryd.prog 4) b n D/\∀ m:Nat,m<18446744073709551616->D.atKey (.int .u64 (m:Int)) (.lit (.bool false))=.lit (.bool (l.contains m))
theorem Zp (h:m<18446744073709551616):(Lit.int .u64 (m:Int)).wf=true:=by
 simp[Lit.wf,IntKind.min,IntKind.max,IntKind.bits,IntKind.signed];omega
theorem Yr (h:m<18446744073709551616):keyOf Tryd.prog 95 (.int .u64 (m:Int))=some (.int .u64 (m:Int)):=Go.Maps.keyOf_int_mk Tryd.underlying95 (Zp h)
theorem jk.made (w:World):jk (w.alloc (.map #[] 0)) w.heap.size 0 [] :=
 ⟨.map [],Go.Maps.isMap_empty,World.ownsMap_made w _ _ _,fun m _=>rfl⟩
theorem jk.of_heap {w:World} (h:jk w b n l) (hb:w'.heap[b]? = w.heap[b]?):jk w' b n l:=by
 obtain⟨D,h1,⟨es,clock,h2,h3,h4,h5⟩,h6⟩:=h;exact⟨D,h1,⟨es,clock,hb.trans h2,h3,h4,h5⟩,h6⟩
theorem jk.lt (h:jk w b n l):b<w.heap.size:=by
 obtain⟨D,_,h,_⟩:=h;exact h.lt
theorem jk.obj (h:jk w b n l):∃ es clock,w.heap[b]? = some (.map es clock):=by
 obtain⟨D,_,⟨es,clock,h,_⟩,_⟩:=h;exact⟨es,clock,h⟩
theorem aaI (w:World):(zeroValue 4).run Tryd.prog w=.ok (.bool false) w:=by
 have hi:(Tryd.prog.info? 4).bind (·.zero)=some (.bool false):=by kernel_rfl
 cases hq:Tryd.prog.info? 4 with
 |none=>rw[hq]at hi;cases hi
 |some i =>
  rw[hq]at hi;have hz:i.zero=some (.bool false):=by simpa using hi
  simp[Go.zeroValue,Go.typeInfo,hq,hz]
theorem WV {P:Program} (he:P.underlying e=some .bool) {x:Bool} {ps:List MemPlace} (h:plainElem (H:=Nat) P e v=some (.lit (.bool x),ps)):v=.bool x:=by
 unfold plainElem at h;rw[he]at h;cases v<;>simp at h;rw[h.1]
theorem jk.look (h:jk w b n l) (hm:m<18446744073709551616):(Instr.lookup 134 (.map (some b)) (.int .u64 (m:Int)) false).run Tryd.prog w=.ok (.bool (l.contains m)) w:=by
 obtain⟨D,h1,h2,h3⟩:=h;obtain⟨v,ps,hr,hv⟩:=h2.lookup (Go.Maps.int_keyed Tryd.underlying95) Tryd.underlying134 (aaI w) (plainElem_bool Tryd.underlying4 false) (Yr hm);rw[h3 m hm]at hv;have e:v=.bool (l.contains m):=WV Tryd.underlying4 hv;subst e;exact hr
theorem jk.put (h:jk w b n l) (hm:m<18446744073709551616) (hn:n<1000000):∃ w',(Instr.mapUpdate 134 (.map (some b)) (.int .u64 (m:Int)) (.bool true)).run Tryd.prog w=.ok () w'/\jk w' b (n+1) (m::l)/\w.grownBy w' (some b):=by
 obtain⟨D,h1,h2,h3⟩:=h;obtain⟨w',hr,ho,hg⟩:=h2.update (Go.Maps.int_keyed Tryd.underlying95) Tryd.underlying134 (Nat.lt_trans hn (by decide)) (Yr hm) (plainElem_bool Tryd.underlying4 true);refine⟨w',hr,⟨D.put (.int .u64 (m:Int)) (.lit (.bool true)),?_,ho,fun m' hm'=>?_⟩,hg⟩
 ·obtain⟨es,rfl⟩:=h1;exact⟨_,rfl⟩
 ·by_cases e:m'=m
  ·subst e;rw[Go.Maps.atKey_put_same h1 (by simp[Go.WideAt.IsKeyLit])];simp
  ·rw [Go.Maps.atKey_put_other (by
    intro h;simp only[Lit.int.injEq,true_and]at h;exact e zw),h3 m' hm']
   simp[e]
theorem DX (ho:o.op=.makeMap 134 none) (w:World):(execOp ρ o).run Tryd.prog w=.ok (.value (.map (some w.heap.size))) (w.alloc (.map #[] 0)):=by
 unfold execOp;simp[ho,Instr.makeMap,Tryd.underlying134]
theorem Nl (a:Int × Int) (h:Pb 100000000000 a) (w:World) :
  Calls Tryd.prog 98 #[aJ a] w fun r w'=>r=.returned (.int .i64 (oQ a))/\Kp w w':=by
 unfold Pb at h;unfold oQ;obtain⟨a1,a2⟩:=a;simp only at h;obtain⟨h1,h2,h3,h4⟩:=h;have hS:=St.start w (fun _=>none) (fun k o h=>by cases h);unfold aJ;go_enter Tryd.func98,Tryd.ntmps98
 go_wp2_with (first|(refine yy ?_;clear hS;intro w' hS)|(refine yf ?_;clear hS;intro _ w' hS))
 go_ret
 exact⟨rfl,hS.bM⟩
theorem GH (k:Wk) (hk:k.n<=6) (s:SS) (st:Bool) (hlo:∀ i,0<=(s.aP i).1):Pb 70589400 (dW k s st):=by
 rw[Dw];have h:=Xv (l:=k.sources.map (kX k s st)) (c:=11764900) (fun x hx=>by
  obtain⟨i,_,rfl⟩:=List.mem_map.1 hx;exact Hy k hk s st hlo i)
 refine h.mono ?_;have:=Nat.le_trans (sD k k.n) hk;rw[List.length_map];have e:k.sources.length<=6:=this;omega
variable {DS:List Deferred}
noncomputable def B43:Code:=match Tryd.f43.body with|some c=>c|none=>.skip
noncomputable def N5:Code:=match B43 with | .seq _ (.seq _ (.seq _ (.seq _ r)))=>r|_=>.skip
noncomputable def N8:Code:=match N5 with | .seq _ (.seq _ r)=>r|_=>.skip
noncomputable def ops8:Array Oper:=match N8 with | .seq (.region _ o _) _=>o|_=>#[]
noncomputable def N9:Code:=match N8 with | .seq _ r=>r|_=>.skip
noncomputable def NL1:Code:=match N9 with | .seq (.seq _ (.block _ (.loop l))) _=>l|_=>.skip
noncomputable def NK:Code:=match N9 with | .seq _ r=>r|_=>.skip
noncomputable def NB1:Code:=match NL1 with | .seq _ (.seq _ (.seq (.block _ b) _))=>b|_=>.skip
noncomputable def abl:Code:=match NL1 with | .seq _ (.seq _ (.seq _ r))=>r|_=>.skip
noncomputable def N15:Code:=match NB1 with | .seq _ (.seq _ (.seq _ (.seq _ r)))=>r|_=>.skip
noncomputable def YN:Code:=match N15 with | .seq (.seq _ (.block _ (.loop l))) _=>l|_=>.skip
noncomputable def NQ:Code:=match N15 with | .seq _ r=>r|_=>.skip
noncomputable def aa1:Code:=match YN with | .seq _ (.seq _ r)=>r|_=>.skip
noncomputable def YE:Array Oper:=match YN with | .seq _ (.seq (.block _ (.seq _ (.seq _ (.seq _ (.seq _ (.region _ o _)))))) _)=>o|_=>#[]
noncomputable def TT (l:List Nat):List Item:=[.inRegion ops8 l,.code N9]
noncomputable def jO:List Item:=[.code NL1,.inLoop NL1,.inBlock 0,.code NK]
noncomputable def U4:List Item:=[.inBlock 2,.code NQ,.inBlock 1,.code abl,.inLoop NL1,.inBlock 0,.code NK]
noncomputable def iH:List Item:=.code YN::.inLoop YN::U4
noncomputable def Ep (l:List Nat):List Item:=.inRegion YE l::.inBlock 3::.code aa1::.inLoop YN::U4
def kH (v1 v6 v7 v8 v9 v10 v11 v12 v13 v14 v15 v37 v38:Value) (f:Nat->Value):Array Value :=
 #[f 0,v1,f 2,f 3,f 4,f 5,v6,v7,v8,v9,v10,v11,v12,v13,v14,v15,f 16,f 17,f 18,f 19,f 20,f 21,f 22,f 23,f 24,f 25,f 26,f 27,f 28,f 29,f 30,f 31,f 32,f 33,f 34,f 35,f 36,v37,v38,f 39,f 40,f 41,f 42,f 43,f 44,f 45,f 46,f 47,f 48,f 49,f 50,f 51,f 52,f 53,f 54,f 55,f 56,f 57,f 58,f 59,f 60,f 61,f 62,f 63,f 64,f 65,f 66,f 67,f 68,f 69,f 70,f 71,f 72,f 73,f 74,f 75,f 76,f 77,f 78,f 79,f 80,f 81,f 82,f 83,f 84,f 85,f 86,f 87,f 88,f 89,f 90,f 91,f 92,f 93,f 94,f 95,f 96,f 97,f 98,f 99,f 100,f 101,f 102,f 103,f 104,f 105]
theorem qO {a:Act} {v1 v6 v7 v8 v9 v10 v11 v12 v13 v14 v15 v37 v38:Value} {ds:List Deferred} (h:a=⟨kH v1 v6 v7 v8 v9 v10 v11 v12 v13 v14 v15 v37 v38 (fun j=>a.tmps.getD j undef),ds⟩):∃ f,a=⟨kH v1 v6 v7 v8 v9 v10 v11 v12 v13 v14 v15 v37 v38 f,ds⟩:=⟨_,h⟩
structure NX (V:View) (p:Nat) (k:Wk) (D:List Nat) (b8:Nat) (s:SS):Prop where
 cel:jh V p k
 gv:GV V
 cl:Closed V D
 pD:p∈D
 s8:V.Range b8 0 (dJ s)
theorem PX (vv rv:Value) (k:Wk) (hk:iJ V vv rv k) (hG:GV V) (hV:V.In w) (err:Int) (hb:aS k []=0) (ho:fQ err 0 9=false) (hst:Go.Wg.settle k (aN k aC)=none) :
  fA Tryd.prog (TT [2,3,4,5]) (fun a w'=>∃ p V' D b6 b8,((∃ f,a=⟨kH (.int .i64 err) (ptr b6) (ptr p) (ptr b8) undef undef undef undef undef undef undef undef undef f,[dC b6]⟩)/\a.tmps[29]? = some (ptr p)/\a.tmps[30]? = some (.agg (dJ (aN k aC)).toArray)) /\
    NX V' p k D b8 (aN k aC)/\St w [] V' [.blk b6 38 [.int .i64 0]] w')
   [.code B43] {tmps:=#[.agg #[vv,rv],.int .i64 err] ++ Array.replicate 104 undef,defers:=[]} w:=by
 have hk0:=hk;obtain⟨va,vcap,rfl,hvc,hvm,hve⟩:=hk0.ves.is;obtain⟨ra,rcap,rfl,hrc,hrm,hre⟩:=hk0.rdg.is;have hS:=St.start w V hV;clear hk0 hve hre;have hok:=dP hb;have hcan:can k (aN k aC)=true:=by unfold can;rw[hst];rfl
 have HL:(dJ (aN k aC)).length=18:=dG (gG _ _);replace hst:=aj hst;replace hcan:=aj hcan;replace hb:=aj hb;simp only[Array.replicate_succ,Array.replicate_zero,List.push_toArray,List.append_toArray,List.nil_append,List.cons_append];unfold ptr;refine au (aA ?_);go_wp2_with (first|(refine ya 6 ?_;clear hS;intro b6 w' hS)|(refine yf ?_;clear hS;intro _ w' hS))
 refine au (aA ?_);go_wp2_with (fail)
 refine au (aA ?_);go_wp2_with (first|(refine ym ?_;clear hS;intro w' hS)|(refine ys ?_;clear hS;intro w' hS)|(go_at_call 77;refine zG hS hk pG (by simp) hb.out ?_;clear hS;intro p V' w' D hVV hcel hD hpD hS;have hG':GV V':=hG.mono hVV))
 refine au (au (aA ?_));go_wp2_with (refine yy ?_;clear hS;intro w' hS)
 refine dZ (t:=false) rfl (lu ?_);refine au (au (aA ?_));go_wp2_with (go_at_call 88;refine aH hS ⟨_,fB _ _ _ _,?_⟩;rw[ho];clear hS;intro w' hS)
 refine dZ (t:=false) rfl (lu ?_);refine au (aA ?_);go_wp2_with (first|(refine ys ?_;clear hS;intro w' hS)|(refine ya 8 ?_;clear hS;intro b8 w' hS)|(go_at_call 83;refine aH hS ⟨_,y8 V' p k hcel hok hcan.out _ (St.view hS),?_⟩;clear hS;intro w' hS))
 obtain⟨V1,hV1,hcell,hS'⟩:=pin hS;clear hS;have hS:=hS';clear hS';have hr8:V1.Range b8 0 (dJ (aN k aC)):=fun j v hj=>by rw[Nat.zero_add];exact hcell j v hj
 refine au (ig ?_);refine cO (i:=0) (v:=.pointer (some ⟨p,0,none⟩)) (w':=w') rfl rfl rfl ?_;refine cO (i:=1) rfl rfl (iy (n:=18) rfl rfl jS.ok HL (hr8.range hS.view)) ?_;exact bG (tgt:=TT [2,3,4,5]) ⟨p,V1,D,b6,b8,⟨qO rfl,rfl,rfl⟩,⟨by obtain⟨ts,x,y,hc⟩:=hcel;exact⟨ts,x,y,hc.mono hV1⟩,hG'.mono hV1,kM hD hV1,hpD,hr8⟩,hS.sub (List.Sublist.cons_cons _ (List.Sublist.cons _ (List.Sublist.refl _)))⟩
theorem aas (hX:NX V p k D b8 s) (v1 v6 v8 v9 v10 v11 v12 v13 v14 v15 v37 v38:Value) (f:Nat->Value) (r:Int × Int) (hr:Pb 100000000000 r) (h31:f 31=aJ r) (hV:V.In w) :
  fA Tryd.prog jO (fun a w'=>(∃ f,a=⟨kH v1 v6 (ptr p) v8 (.int .i64 (-1)) (.int .i64 (oQ r)) v11 v12 v13 v14 v15 (.int .i64 k.n) (.int .i64 0) f,DS⟩)/\Kp w w')
   (TT [3,4,5]) ⟨kH v1 v6 (ptr p) v8 v9 v10 v11 v12 v13 v14 v15 v37 v38 f,DS⟩ w:=by
 obtain⟨ts,vv,rv,hC⟩:=hX.cel;obtain⟨g,cap,hc2,hts⟩:=hC.c2;have hn0:=hC.pos;have hn6:=hC.le;have hS:=St.start w V hV;rw[show kH v1 v6 (ptr p) v8 v9 v10 v11 v12 v13 v14 v15 v37 v38 f=_ from by unfold kH ptr;rw[h31]];refine rZ (i:=3) rfl rfl (run_call_body rfl Tryd.func98 zk rfl) ?_;simp only[List.map_toArray,List.map_cons,List.map_nil];show Calls Tryd.prog 98 #[aJ r] w _;refine(Nl r hr w).mono ?_;rintro e w2 ⟨rfl,hkp⟩;refine⟨_,rfl,?_⟩;replace hS:=hS.kp hkp;refine cO (i:=4) (v:=.int .i64 (-1)) (w':=w2) rfl rfl rfl ?_;refine cO (i:=5) (v:=.int .i64 (oQ r)) (w':=w2) rfl rfl rfl ?_;refine dH ?_;show fA Tryd.prog jO _ _ ⟨#[f 0,v1,f 2,f 3,f 4,f 5,v6,.pointer (some ⟨p,0,none⟩),v8,.int .i64 (-1),.int .i64 (oQ r),v11,v12,v13,v14,v15,f 16,f 17,f 18,f 19,f 20,f 21,f 22,f 23,f 24,f 25,f 26,f 27,f 28,f 29,f 30,aJ r,.int .i64 (oQ r),f 33,f 34,f 35,f 36,v37,v38,f 39,f 40,f 41,f 42,f 43,f 44,f 45,f 46,f 47,f 48,f 49,f 50,f 51,f 52,f 53,f 54,f 55,f 56,f 57,f 58,f 59,f 60,f 61,f 62,f 63,f 64,f 65,f 66,f 67,f 68,f 69,f 70,f 71,f 72,f 73,f 74,f 75,f 76,f 77,f 78,f 79,f 80,f 81,f 82,f 83,f 84,f 85,f 86,f 87,f 88,f 89,f 90,f 91,f 92,f 93,f 94,f 95,f 96,f 97,f 98,f 99,f 100,f 101,f 102,f 103,f 104,f 105],DS⟩ w2;generalize oQ r=sz;generalize aJ r=sv;refine au (au (aA ?_));go_wp2_with (refine yy ?_;clear hS;intro w' hS)
 refine jg (zh ?_);exact bG (tgt:=jO) ⟨qO rfl,hS.bM⟩
theorem GK (hX:NX V p k D b8 s) (hs:s.WF) (err:Int) (he0:0<=err) (he9:err<=9) (i:Nat) (hi:i<k.n) (v6 v9 v10 v11 v12 v13 v14 v15:Value) (f:Nat->Value) (hV:V.In w) :
  fA Tryd.prog iH (fun a w'=>∃ mb b14,(∃ f,a=⟨kH (.int .i64 err) v6 (ptr p) (ptr b8) v9 v10 (.int .i64 i) (.int .i64 0) (.map (some mb)) (ptr b14) (.int .i64 ((aO k s i).1-err)) (.int .i64 k.n) (.int .i64 i) f,DS⟩) /\
    Kp w w'/\jk w' mb 0 []/\w.heap.size<=mb/\w.heap.size<=b14/\w'.heap[b14]? = some (.cells #[.int .i64 (aO k s i).1,.int .i64 (aO k s i).2] 27 (0,0)))
   jO ⟨kH (.int .i64 err) v6 (ptr p) (ptr b8) v9 v10 v11 v12 v13 v14 v15 (.int .i64 k.n) (.int .i64 i) f,DS⟩ w:=by
 have hn6:k.n<=6:=by obtain⟨ts,x,y,hc⟩:=hX.cel;exact hc.le
 have HL:(dJ s).length=18:=dG hs;have h0:(0:Int)<=i:=by omega
 have h1:(i:Int)<k.n:=by omega
 have h6:i<6:=by omega
 have hr8:=hX.s8;have hwb:=qE k s i 41 (Nat.le_refl _);have hwk:=fun(w1:World) (hV1:V.In w1)=>Af V p k hX.cel hX.gv s hs i h6 w1 hV1
 rw[show bZ k s i 41=aO k s i from rfl]at hwb;generalize aO k s i=r at hwb hwk |-;have hS:=St.start w V hV;rw[show kH (.int .i64 err) v6 (ptr p) (ptr b8) v9 v10 v11 v12 v13 v14 v15 (.int .i64 k.n) (.int .i64 i) f=_ from by unfold kH ptr;rfl];refine au (aA ?_);go_wp2_with (fail)
 refine au (dZ (t:=true) rfl (lu ?_));refine au (jg (au (aA ?_)));go_wp2_with (fail)
 refine au (aA ?_);go_wp2_with (fail)
 refine au (ig ?_);refine cO (i:=0) rfl rfl (DX rfl w) ?_;refine cO (i:=1) (v:=.map (some w.heap.size)) rfl rfl rfl (dH ?_);have hk1:Kp w (w.alloc (.map #[] 0)):=⟨rfl,rfl,by show _<=(w.heap.push _).size;simp,fun k hk=>heap_alloc_old w _ hk⟩;have hm1:=jk.made w;have hlm:w.heap.size<=w.heap.size:=Nat.le_refl _;have hin:=(hS.kp hk1).view;clear hS;generalize w.alloc (.map #[] 0)=w1 at *;obtain⟨mb,hmb⟩:∃ mb,w.heap.size=mb:=⟨_,rfl⟩;rw[hmb]at hm1;have hlm:w.heap.size<=mb:=by omega
 rw[hmb];have hS:=St.start w1 V hin;show fA Tryd.prog iH _ _ ⟨#[f 0,.int .i64 err,f 2,f 3,f 4,f 5,v6,.pointer (some ⟨p,0,none⟩),.pointer (some ⟨b8,0,none⟩),v9,v10,.int .i64 i,.int .i64 0,.map (some mb),v14,v15,f 16,f 17,f 18,f 19,f 20,f 21,f 22,f 23,f 24,f 25,f 26,f 27,f 28,f 29,f 30,f 31,f 32,f 33,f 34,f 35,f 36,.int .i64 k.n,.int .i64 i,.bool true,.int .i64 i,.map (some mb),f 42,f 43,f 44,f 45,f 46,f 47,f 48,f 49,f 50,f 51,f 52,f 53,f 54,f 55,f 56,f 57,f 58,f 59,f 60,f 61,f 62,f 63,f 64,f 65,f 66,f 67,f 68,f 69,f 70,f 71,f 72,f 73,f 74,f 75,f 76,f 77,f 78,f 79,f 80,f 81,f 82,f 83,f 84,f 85,f 86,f 87,f 88,f 89,f 90,f 91,f 92,f 93,f 94,f 95,f 96,f 97,f 98,f 99,f 100,f 101,f 102,f 103,f 104,f 105],DS⟩ w1;refine au (aA ?_);go_wp2_with (first|(refine ym ?_;clear hS;intro w' hS)|(refine ys ?_;clear hS;intro w' hS)|(refine ya 14 ?_;clear hS;intro b14 w' hS)|(go_at_call 99;refine aH hS ⟨_,hwk _ (St.view hS),?_⟩;clear hS;intro w' hS))
 obtain⟨q1,q2,q3,q4⟩:=hwb;refine au (au (aA ?_));go_wp2_with (refine yy ?_;clear hS;intro w' hS)
 refine jg (zh ?_);have hm2:jk w' mb 0 []:=hm1.of_heap (hS.bM.old mb hm1.lt);have hl14:=(hS.new (.blk b14 27 [.int .i64 r.1,.int .i64 r.2]) (by simp) b14 rfl).elim id (fun h=>nomatch h);have hsz:=hk1.size;exact bG (tgt:=iH) ⟨mb,b14,qO rfl,hk1.trans hS.bM,hm2,Nat.le_refl _,by omega,hS.dR⟩
noncomputable def N20:Code:=match YN with | .seq _ (.seq (.block _ (.seq _ (.seq _ c))) _)=>c|_=>.skip
noncomputable def OM:List Item:=.code N20::.inBlock 3::.code aa1::.inLoop YN::U4
theorem Z5 (hX:NX V p k D b8 s) (hs:s.WF) (err:Int) (he0:0<=err) (he9:err<=9) (i:Nat) (hi:i<k.n) (mb b14:Nat) (r:Int × Int) (hr:V.Range b14 0 [.int .i64 r.1,.int .i64 r.2]) (hr0:0<=r.2) (hr4:r.2<=40)
 (sh:Int) (hsh0:-9<=sh) (hsh:sh<=r.2+err) (v6 v9 v10 v12 v37 v38:Value) (f:Nat->Value) (hV:V.In w) :
  fA Tryd.prog OM (fun a w'=>∃ b16,((∃ f,a=⟨kH (.int .i64 err) v6 (ptr p) (ptr b8) v9 v10 (.int .i64 i) v12 (.map (some mb)) (ptr b14) (.int .i64 sh) v37 v38 f,DS⟩)/\a.tmps[16]? = some (ptr b16))/\St w [] V [.blk b16 100 (dJ (s.cu i (jA s i err sh)))] w')
   iH ⟨kH (.int .i64 err) v6 (ptr p) (ptr b8) v9 v10 (.int .i64 i) v12 (.map (some mb)) (ptr b14) (.int .i64 sh) v37 v38 f,DS⟩ w:=by
 have hn6:k.n<=6:=by obtain⟨ts,x,y,hc⟩:=hX.cel;exact hc.le
 have HL:(dJ s).length=18:=dG hs;have h0:(0:Int)<=i:=by omega
 have h6:i<6:=by omega
 have h7:(i:Int)<6:=by omega
 have hr8:=hX.s8;have hl8:(dJ s)[i]? = some (.int .u64 (s.aK i:Nat)):=oh hs h6;have HB:=rJ (s.aK i) (dO (sh-err) (sh+err)) (by have:=hs.fZ i;omega) (by have:=rG (sh-err) (sh+err);omega);have HS:=pO hs h6 (s.aK i &&& dO (sh-err) (sh+err));have HN:jA s i err sh=s.aK i &&& dO (sh-err) (sh+err):=rfl;rw[HN];clear HN;replace HB:=aj HB;replace HS:=aj HS;have hc14:V.Cell b14 1 (.int .i64 r.2):=hr 1 _ rfl;have hS:=St.start w V hV;rw[show kH (.int .i64 err) v6 (ptr p) (ptr b8) v9 v10 (.int .i64 i) v12 (.map (some mb)) (ptr b14) (.int .i64 sh) v37 v38 f=_ from by unfold kH ptr;rfl];refine au (aA ?_);go_wp2_with (refine yy ?_;clear hS;intro w' hS)
 refine au (jg (au (aA ?_)));go_wp2_with (first|(refine ym ?_;clear hS;intro w' hS)|(refine ys ?_;clear hS;intro w' hS)|(refine ya 16 ?_;clear hS;intro b16 w' hS))
 refine au (aA ?_);(refine aY 14 zk zk (St.eY hS) ?_;simp only[List.take_succ_cons,List.take_zero,List.drop_succ_cons,List.drop_zero];clear hS;(repeat ((go_big_quiet_want;(first|((with_reducible refine Xf ?_);refine jW rfl rfl ?_;refine zF ?_)|((with_reducible refine Uj ?_);(refine pq rfl rfl ?_);refine⟨_,zd,?_⟩;refine zF ?_)|((with_reducible refine YW ?_);refine mF ?_;refine⟨_,_,by(intro _;go_simp;exact⟨rfl,rfl⟩),?_⟩;refine⟨_,by(intro w' hS;((go_at_call 100;exact yH _ _ _))),?_⟩;refine zF ?_)|(refine gu ?_;refine⟨_,zp,?_⟩;refine zF ?_));go_big_quiet_on)));refine wpQuiet_nil ?_;intro w' hS)
 go_wp2_with (refine ys ?_;clear hS;intro w' hS;try (simp only[HB.out,HS.out]at hS))
 exact bG (tgt:=OM) ⟨b16,⟨qO rfl,rfl⟩,hS⟩
theorem wz {m:Operand} (ho:o.op=.lookup 134 m x false) (hm:ρ m=.map (some b)) (hx:ρ x=.int .u64 (key:Int)) (h:jk w b n l) (hk:key<18446744073709551616) :
  (execOp ρ o).run Tryd.prog w=.ok (.value (.bool (l.contains key))) w:=by
 have hl:=h.look hk;unfold execOp;simp only[ho,hm,hx,Sem.run_bind,hl];rfl
theorem UD {x:SS} (hX:NX V p k D b8 s) (hx:x.WF) (err:Int) (i:Nat) (hi:i<k.n) (mb b14 b16 cnt:Nat) (l:List Nat) (hmap:jk w mb cnt l) (h16:V.Range b16 0 (dJ x))
 (sh:Int) (hsh0:-9<=sh) (hsh:sh<=49) (v6 v9 v10 v12 v37 v38:Value) (f:Nat->Value) (hf16:f 16=ptr b16) (hV:V.In w) (hmet:l.contains (x.aK i)=true) :
  fA Tryd.prog iH (fun a w'=>(∃ f,a=⟨kH (.int .i64 err) v6 (ptr p) (ptr b8) v9 v10 (.int .i64 i) v12 (.map (some mb)) (ptr b14) (.int .i64 (sh+1)) v37 v38 f,DS⟩)/\Kp w w') OM ⟨kH (.int .i64 err) v6 (ptr p) (ptr b8) v9 v10 (.int .i64 i) v12 (.map (some mb)) (ptr b14) (.int .i64 sh) v37 v38 f,DS⟩ w:=by
 have hn6:k.n<=6:=by obtain⟨ts,y,z,hc⟩:=hX.cel;exact hc.le
 have HL:(dJ x).length=18:=dG hx;have h0:(0:Int)<=i:=by omega
 have h6:i<6:=by omega
 have h7:(i:Int)<6:=by omega
 have hl8:(dJ x)[i]? = some (.int .u64 (x.aK i:Nat)):=oh hx h6;have hc16:V.Cell b16 i (.int .u64 (x.aK i:Nat)):=by
  have:=h16 i _ hl8
  rwa [Nat.zero_add]at this
 have hm64:x.aK i<18446744073709551616:=by have:=hx.fZ i;omega
 have hS:=St.start w V hV;rw[show kH (.int .i64 err) v6 (ptr p) (ptr b8) v9 v10 (.int .i64 i) v12 (.map (some mb)) (ptr b14) (.int .i64 sh) v37 v38 f=_ from by unfold kH;simp only[hf16,ptr];rfl];refine au (au (aA ?_));go_wp2_with (first|(refine yy ?_;clear hS;intro w' hS)|(at_lookup;refine dU rfl (wz rfl rfl rfl (jk.of_heap hmap (hS.bM.old mb (jk.lt hmap))) hm64) ?_;rw[hmet]))
 refine dZ (t:=true) rfl (lG rfl ?_);refine aA ?_;conv=>enter [2];whnf
 go_wp2_with (fail)
 refine jr ?_;exact bG (tgt:=iH) ⟨qO rfl,hS.bM⟩
theorem XY {x:SS} (hX:NX V p k D b8 s) (hx:x.WF) (err:Int) (i:Nat) (hi:i<k.n) (mb b14 b16 cnt:Nat) (l:List Nat) (hmap:jk w mb cnt l) (h16:V.Range b16 0 (dJ x))
 (sh:Int) (hsh0:-9<=sh) (hsh:sh<=49) (v6 v9 v10 v12 v37 v38:Value) (f:Nat->Value) (hf16:f 16=ptr b16) (hV:V.In w) (hmet:l.contains (x.aK i)=false) (hcan:can k x=false) :
  fA Tryd.prog iH (fun a w'=>(∃ f,a=⟨kH (.int .i64 err) v6 (ptr p) (ptr b8) v9 v10 (.int .i64 i) v12 (.map (some mb)) (ptr b14) (.int .i64 (sh+1)) v37 v38 f,DS⟩)/\Kp w w') OM ⟨kH (.int .i64 err) v6 (ptr p) (ptr b8) v9 v10 (.int .i64 i) v12 (.map (some mb)) (ptr b14) (.int .i64 sh) v37 v38 f,DS⟩ w:=by
 have hn6:k.n<=6:=by obtain⟨ts,y,z,hc⟩:=hX.cel;exact hc.le
 have HL:(dJ x).length=18:=dG hx;have h0:(0:Int)<=i:=by omega
 have h6:i<6:=by omega
 have h7:(i:Int)<6:=by omega
 have hl8:(dJ x)[i]? = some (.int .u64 (x.aK i:Nat)):=oh hx h6;have hc16:V.Cell b16 i (.int .u64 (x.aK i:Nat)):=by
  have:=h16 i _ hl8
  rwa [Nat.zero_add]at this
 have hm64:x.aK i<18446744073709551616:=by have:=hx.fZ i;omega
 have hS:=St.start w V hV;rw[show kH (.int .i64 err) v6 (ptr p) (ptr b8) v9 v10 (.int .i64 i) v12 (.map (some mb)) (ptr b14) (.int .i64 sh) v37 v38 f=_ from by unfold kH;simp only[hf16,ptr];rfl];refine au (au (aA ?_));go_wp2_with (first|(refine yy ?_;clear hS;intro w' hS)|(at_lookup;refine dU rfl (wz rfl rfl rfl (jk.of_heap hmap (hS.bM.old mb (jk.lt hmap))) hm64) ?_;rw[hmet])|(go_at_call 78;refine aH hS ⟨_,Dx V p k hX.cel hX.gv x hx _ (St.view hS),?_⟩;rw[hcan];clear hS;intro w' hS))
 refine dZ (t:=true) rfl (lG rfl ?_);refine aA ?_;conv=>enter [2];whnf
 go_wp2_with (fail)
 refine jr ?_;exact bG (tgt:=iH) ⟨qO rfl,hS.bM⟩
theorem PD {m:Operand} {w:World} (ho:o.op=.mapUpdate 134 m x y) (hm:ρ m=.map (some b)) (hx:ρ x=.int .u64 (key:Int)) (hy:ρ y=.bool true)
  (h:(Instr.mapUpdate 134 (.map (some b)) (.int .u64 (key:Int)) (.bool true)).run Tryd.prog w=.ok () w'):(execOp ρ o).run Tryd.prog w=.ok .skip w':=by
 unfold execOp;simp only[ho,hm,hx,hy,Sem.run_bind,h];rfl
theorem U8 {x:SS} (hX:NX V p k D b8 s) (hx:x.WF) (err:Int) (i:Nat) (hi:i<k.n) (mb b14 b16 cnt:Nat) (l:List Nat) (hmap:jk w mb cnt l) (h16:V.Range b16 0 (dJ x))
 (sh:Int) (hsh0:-9<=sh) (hsh:sh<=49) (v6 v9 v10 v12 v37 v38:Value) (f:Nat->Value) (hf16:f 16=ptr b16) (hV:V.In w) (hmet:l.contains (x.aK i)=false) (hcan:can k x=true) (hcnt:cnt < 1000000) (hVm:V mb=none) :
  fA Tryd.prog (Ep [3,4,5,6]) (fun a w'=>((∃ f,a=⟨kH (.int .i64 err) v6 (ptr p) (ptr b8) v9 v10 (.int .i64 i) v12 (.map (some mb)) (ptr b14) (.int .i64 sh) v37 v38 f,DS⟩)/\a.tmps[90]? = some v12/\a.tmps[91]? = some (ptr p)/\a.tmps[92]? = some (.agg (dJ x).toArray))/\jk w' mb (cnt+1) (x.aK i::l)/\ni mb w w')
   OM ⟨kH (.int .i64 err) v6 (ptr p) (ptr b8) v9 v10 (.int .i64 i) v12 (.map (some mb)) (ptr b14) (.int .i64 sh) v37 v38 f,DS⟩ w:=by
 have hn6:k.n<=6:=by obtain⟨ts,y,z,hc⟩:=hX.cel;exact hc.le
 have HL:(dJ x).length=18:=dG hx;have h0:(0:Int)<=i:=by omega
 have h6:i<6:=by omega
 have h7:(i:Int)<6:=by omega
 have hl8:(dJ x)[i]? = some (.int .u64 (x.aK i:Nat)):=oh hx h6;have hc16:V.Cell b16 i (.int .u64 (x.aK i:Nat)):=by
  have:=h16 i _ hl8
  rwa [Nat.zero_add]at this
 have hm64:x.aK i<18446744073709551616:=by have:=hx.fZ i;omega
 have hS:=St.start w V hV;rw[show kH (.int .i64 err) v6 (ptr p) (ptr b8) v9 v10 (.int .i64 i) v12 (.map (some mb)) (ptr b14) (.int .i64 sh) v37 v38 f=_ from by unfold kH;simp only[hf16,ptr];rfl];refine au (au (aA ?_));go_wp2_with (first|(refine yy ?_;clear hS;intro w' hS)|(at_lookup;refine dU rfl (wz rfl rfl rfl (jk.of_heap hmap (hS.bM.old mb (jk.lt hmap))) hm64) ?_;rw[hmet])|(go_at_call 78;refine aH hS ⟨_,Dx V p k hX.cel hX.gv x hx _ (St.view hS),?_⟩;rw[hcan];clear hS;intro w' hS))
 refine dZ (t:=false) rfl (lu ?_);refine au (aA ?_);go_wp2_with (first|(refine yy ?_;clear hS;intro w' hS)|(at_mapUpdate;obtain⟨w2,hr2,hm2,hg2⟩:=(jk.of_heap hmap (hS.bM.old mb (jk.lt hmap))).put hm64 hcnt;refine ES rfl (PD rfl rfl rfl rfl hr2) ?_))
 have hkb:ni mb w w2:=⟨hg2.os.trans hS.os,hg2.output.trans hS.output,Nat.le_trans hS.size hg2.size,fun j hj hn=>(hg2.block j (Nat.lt_of_lt_of_le hj hS.size) (fun h=>hn (Option.some.inj h))).trans (hS.bM.old j hj)⟩;have hin2:V.In w2:=fun j o h=>by
  have hj:=hV j o h;rw[hkb.old j (lt_of_heap hj) (by rintro rfl;rw[hVm]at h;cases h)];exact hj
 refine ig ?_;refine cO (i:=0) (v:=v12) (w':=w2) rfl rfl rfl ?_;refine cO (i:=1) (v:=.pointer (some ⟨p,0,none⟩)) (w':=w2) rfl rfl rfl ?_;refine cO (i:=2) rfl rfl (iy (n:=18) rfl rfl jS.ok HL (h16.range hin2)) ?_;show fA Tryd.prog (Ep [3,4,5,6]) _ _ ⟨#[f 0,.int .i64 err,f 2,f 3,f 4,f 5,v6,.pointer (some ⟨p,0,none⟩),.pointer (some ⟨b8,0,none⟩),v9,v10,.int .i64 i,v12,.map (some mb),.pointer (some ⟨b14,0,none⟩),.int .i64 sh,.pointer (some ⟨b16,0,none⟩),f 17,f 18,f 19,f 20,f 21,f 22,f 23,f 24,f 25,f 26,f 27,f 28,f 29,f 30,f 31,f 32,f 33,f 34,f 35,f 36,v37,v38,f 39,f 40,f 41,f 42,f 43,f 44,f 45,f 46,f 47,f 48,f 49,f 50,f 51,f 52,f 53,f 54,f 55,f 56,f 57,f 58,f 59,f 60,f 61,f 62,f 63,f 64,f 65,f 66,f 67,f 68,f 69,f 70,f 71,f 72,.map (some mb),.int .i64 i,.pointer (some ⟨b16,0,none⟩),.pointer (some ⟨b16,i,none⟩),.int .u64 (x.aK i:Nat),.bool false,.bool false,.pointer (some ⟨p,0,none⟩),.agg (dJ x).toArray,.bool true,.bool false,.bool false,.map (some mb),.int .i64 i,.pointer (some ⟨b16,0,none⟩),.pointer (some ⟨b16,i,none⟩),.int .u64 (x.aK i:Nat),v12,.pointer (some ⟨p,0,none⟩),.agg (dJ x).toArray,f 93,f 94,f 95,f 96,f 97,f 98,f 99,f 100,f 101,f 102,f 103,f 104,f 105],DS⟩ w2;exact bG (tgt:=Ep [3,4,5,6]) ⟨⟨qO rfl,rfl,rfl,rfl⟩,hm2,hkb⟩
theorem Ul {ats:Array TypeId} {a b:Int} (ho:o.op=.call {callee:=.builtin .max,args:=#[x,y],argTypes:=ats}) (hx:ρ x=.int .i64 a) (hy:ρ y=.int .i64 b) (w:World) :
  (execOp ρ o).run Tryd.prog w=.ok (.value (.int .i64 (max a b))) w:=by
 have e:(if b > a then b else a)=max a b:=by
  split<;>omega
 unfold execOp;simp[ho,resolve,invoke,builtin,hx,hy,go_sem,e]
theorem aat (most sh:Int) (hsh0:-9<=sh) (hsh:sh<=49) (v1 v6 v7 v8 v9 v10 v11 v13 v14 v37 v38:Value) (f:Nat->Value) (r:Int × Int) (hr:Pb 100000000000 r) (h93:f 93=aJ r) (h90:f 90=.int .i64 most) (hV:V.In w) :
  fA Tryd.prog iH (fun a w'=>(∃ f,a=⟨kH v1 v6 v7 v8 v9 v10 v11 (.int .i64 (max most (oQ r))) v13 v14 (.int .i64 (sh+1)) v37 v38 f,DS⟩)/\Kp w w')
   (Ep [4,5,6]) ⟨kH v1 v6 v7 v8 v9 v10 v11 (.int .i64 most) v13 v14 (.int .i64 sh) v37 v38 f,DS⟩ w:=by
 have hS:=St.start w V hV;rw[show kH v1 v6 v7 v8 v9 v10 v11 (.int .i64 most) v13 v14 (.int .i64 sh) v37 v38 f=_ from by unfold kH;rw[h93,h90]];refine rZ (i:=4) rfl rfl (run_call_body rfl Tryd.func98 zk rfl) ?_;simp only[List.map_toArray,List.map_cons,List.map_nil];show Calls Tryd.prog 98 #[aJ r] w _;refine(Nl r hr w).mono ?_;rintro e w2 ⟨rfl,hkp⟩;refine⟨_,rfl,?_⟩;replace hS:=hS.kp hkp;generalize oQ r=sz;generalize aJ r=sv;clear hkp;refine cO (i:=5) (v:=.int .i64 (max most sz)) (w':=w2) rfl rfl (Ul rfl rfl rfl w2) ?_;refine cO (i:=6) (v:=.int .i64 (max most sz)) (w':=w2) rfl rfl rfl ?_;refine dH (jE ?_);show fA Tryd.prog iH _ _ ⟨#[f 0,v1,f 2,f 3,f 4,f 5,v6,v7,v8,v9,v10,v11,.int .i64 (max most sz),v13,v14,.int .i64 sh,f 16,f 17,f 18,f 19,f 20,f 21,f 22,f 23,f 24,f 25,f 26,f 27,f 28,f 29,f 30,f 31,f 32,f 33,f 34,f 35,f 36,v37,v38,f 39,f 40,f 41,f 42,f 43,f 44,f 45,f 46,f 47,f 48,f 49,f 50,f 51,f 52,f 53,f 54,f 55,f 56,f 57,f 58,f 59,f 60,f 61,f 62,f 63,f 64,f 65,f 66,f 67,f 68,f 69,f 70,f 71,f 72,f 73,f 74,f 75,f 76,f 77,f 78,f 79,f 80,f 81,f 82,f 83,f 84,f 85,f 86,f 87,f 88,f 89,.int .i64 most,f 91,f 92,sv,.int .i64 sz,.int .i64 (max most sz),f 96,f 97,f 98,f 99,f 100,f 101,f 102,f 103,f 104,f 105],DS⟩ w2;generalize max most sz=mx;refine aA ?_;conv=>enter [2];whnf
 go_wp2_with (fail)
 refine jr ?_;exact bG (tgt:=iH) ⟨qO rfl,hS.bM⟩
noncomputable def N28:Code:=match NK with | .seq _ r=>r|_=>.skip
theorem YP (err best least most sh:Int) (i n b14:Nat) (r:Int × Int) (hr:V.Range b14 0 [.int .i64 r.1,.int .i64 r.2]) (hr0:0<=r.2) (hr4:r.2<=40) (he0:0<=err) (he9:err<=9) (hsh:r.2+err<sh) (hi:i<n) (hn:n<=6) (hlt:most<least)
 (v6 v7 v8 v13:Value) (f:Nat->Value) (hV:V.In w) :
  fA Tryd.prog jO (fun a w'=>(∃ f,a=⟨kH (.int .i64 err) v6 v7 v8 (.int .i64 i) (.int .i64 most) (.int .i64 i) (.int .i64 most) v13 (ptr b14) (.int .i64 sh) (.int .i64 n) (.int .i64 ((i:Int)+1)) f,DS⟩)/\Kp w w')
   iH ⟨kH (.int .i64 err) v6 v7 v8 (.int .i64 best) (.int .i64 least) (.int .i64 i) (.int .i64 most) v13 (ptr b14) (.int .i64 sh) (.int .i64 n) (.int .i64 i) f,DS⟩ w:=by
 have h0:(0:Int)<=i:=by omega
 have hsh':¬ sh<=r.2+err:=by omega
 have hd:decide (sh<=r.2+err)=false:=decide_eq_false hsh';have hc14:V.Cell b14 1 (.int .i64 r.2):=hr 1 _ rfl;have hS:=St.start w V hV;rw[show kH (.int .i64 err) v6 v7 v8 (.int .i64 best) (.int .i64 least) (.int .i64 i) (.int .i64 most) v13 (ptr b14) (.int .i64 sh) (.int .i64 n) (.int .i64 i) f=_ from by unfold kH ptr;rfl];refine au (au (aA ?_));go_wp2_with (refine yy ?_;clear hS;intro w' hS)
 refine dZ (t:=false) rfl (lG rfl ?_);refine aA ?_;conv=>enter [2];whnf
 go_wp2_with (fail)
 refine jE (aA ?_);conv=>enter [2];whnf
 go_wp2_with (fail)
 refine jr ?_;exact bG (tgt:=jO) ⟨qO rfl,hS.bM⟩
theorem ZK (err best least most sh:Int) (i n b14:Nat) (r:Int × Int) (hr:V.Range b14 0 [.int .i64 r.1,.int .i64 r.2]) (hr0:0<=r.2) (hr4:r.2<=40) (he0:0<=err) (he9:err<=9) (hsh:r.2+err<sh) (hi:i<n) (hn:n<=6) (hlt:¬ most<least)
 (v6 v7 v8 v13:Value) (f:Nat->Value) (hV:V.In w) :
  fA Tryd.prog jO (fun a w'=>(∃ f,a=⟨kH (.int .i64 err) v6 v7 v8 (.int .i64 best) (.int .i64 least) (.int .i64 i) (.int .i64 most) v13 (ptr b14) (.int .i64 sh) (.int .i64 n) (.int .i64 ((i:Int)+1)) f,DS⟩)/\Kp w w')
   iH ⟨kH (.int .i64 err) v6 v7 v8 (.int .i64 best) (.int .i64 least) (.int .i64 i) (.int .i64 most) v13 (ptr b14) (.int .i64 sh) (.int .i64 n) (.int .i64 i) f,DS⟩ w:=by
 have h0:(0:Int)<=i:=by omega
 have hsh':¬ sh<=r.2+err:=by omega
 have hd:decide (sh<=r.2+err)=false:=decide_eq_false hsh';have hc14:V.Cell b14 1 (.int .i64 r.2):=hr 1 _ rfl;have hS:=St.start w V hV;rw[show kH (.int .i64 err) v6 v7 v8 (.int .i64 best) (.int .i64 least) (.int .i64 i) (.int .i64 most) v13 (ptr b14) (.int .i64 sh) (.int .i64 n) (.int .i64 i) f=_ from by unfold kH ptr;rfl];refine au (au (aA ?_));go_wp2_with (refine yy ?_;clear hS;intro w' hS)
 refine dZ (t:=false) rfl (lG rfl ?_);refine aA ?_;conv=>enter [2];whnf
 go_wp2_with (fail)
 refine jE (aA ?_);conv=>enter [2];whnf
 go_wp2_with (fail)
 refine jr ?_;exact bG (tgt:=jO) ⟨qO rfl,hS.bM⟩
theorem Zb {w0:World} (best least:Int) (n b6:Nat) (hn:n<=6) (hb:best<0)
 (v1 v7 v8 v11 v12 v13 v14 v15:Value) (f:Nat->Value) (hS:St w0 [] V [.blk b6 38 [.int .i64 0]] w) :
  fA Tryd.prog [.code .ret,.code N28] (fun a w'=>(a.tmps[4]? = some (.int .i64 0)/\a.tmps[5]? = some (.int .i64 0)/\a.tmps[6]? = some (ptr b6)/\a.defers=DS)/\St w0 [] V [.blk b6 38 [.int .i64 11]] w')
   jO ⟨kH v1 (ptr b6) v7 v8 (.int .i64 best) (.int .i64 least) v11 v12 v13 v14 v15 (.int .i64 n) (.int .i64 n) f,DS⟩ w:=by
 rw[show kH v1 (ptr b6) v7 v8 (.int .i64 best) (.int .i64 least) v11 v12 v13 v14 v15 (.int .i64 n) (.int .i64 n) f=_ from by unfold kH ptr;rfl];refine au (aA ?_);go_wp2_with (fail)
 refine au (dZ (t:=false) rfl (lG rfl ?_));refine au (au (aA ?_));go_wp2_with (fail)
 refine dZ (t:=true) rfl (au (aA ?_));go_wp2_with (refine ys ?_;clear hS;intro w' hS)
 exact bG (tgt:=[.code .ret,.code N28]) ⟨⟨rfl,rfl,rfl,rfl⟩,hS⟩
theorem YQ {w0:World} (best least:Int) (n b6:Nat) (hn:n<=6) (hb:¬ best<0)
 (v1 v7 v8 v11 v12 v13 v14 v15:Value) (f:Nat->Value) (hS:St w0 [] V [.blk b6 38 [.int .i64 0]] w) :
  fA Tryd.prog [.code .ret] (fun a w'=>(a.tmps[4]? = some (.int .i64 best)/\a.tmps[5]? = some (.int .i64 least)/\a.tmps[6]? = some (ptr b6)/\a.defers=DS)/\St w0 [] V [.blk b6 38 [.int .i64 0]] w')
   jO ⟨kH v1 (ptr b6) v7 v8 (.int .i64 best) (.int .i64 least) v11 v12 v13 v14 v15 (.int .i64 n) (.int .i64 n) f,DS⟩ w:=by
 rw[show kH v1 (ptr b6) v7 v8 (.int .i64 best) (.int .i64 least) v11 v12 v13 v14 v15 (.int .i64 n) (.int .i64 n) f=_ from by unfold kH ptr;rfl];have hd:decide (best<0)=false:=decide_eq_false hb;refine au (aA ?_);go_wp2_with (fail)
 refine au (dZ (t:=false) rfl (lG rfl ?_));refine au (au (aA ?_));go_wp2_with (fail)
 refine dZ (t:=false) rfl (lu (au (aA ?_)));go_wp2_with (refine ys ?_;clear hS;intro w' hS)
 exact bG (tgt:=[.code .ret]) ⟨⟨rfl,rfl,rfl,rfl⟩,hS⟩
theorem uq {w:World} {τ:Nat->Question->Nat} {d:Nat} (h:Kp (w.re τ d) w'):Kp w w':=⟨h.os,h.output,h.size,h.old⟩
theorem adC {w:World} (h:Kp w w') (τ:Nat->Question->Nat) (d:Nat):Kp w (w'.re τ d):=⟨h.os,h.output,h.size,h.old⟩
noncomputable def qy (x:Item):Bool :=
 match x with
 |.code c | .inLoop c=>bY true c
 |.inRegion ops _=>ops.all fun o=>qj true o.op
 |.inBlock _=>true
 |_=>false
theorem Gz {todo:List Item} (h:todo.all qy=true):∀ x∈todo,iC true x:=fun x hx=>by
 have:=List.all_eq_true.1 h x hx
 match x,this with
 |.code c,h=>exact h
 |.inLoop c,h=>exact h
 |.inRegion ops l,h=>exact h
 |.inBlock id,h=>trivial
section
variable {a:Act} {w':World}
variable {V:View} {w0 w:World} {p:Nat} {k:Wk} {D:List Nat} {b6 b8:Nat} {s:SS} {b:Frame} {cs:List Frame} {Q:Goroutine->World->Prop}
theorem CB (b6:Nat) (h:a.defers=[dC b6]):∀ d∈a.defers,iZ d:=fun d hd=>by
 rw[h]at hd;simp only[List.mem_singleton]at hd;subst hd;simp[iZ,dC]
theorem vI {f0:FuncId} {todo tgt:List Item} (hbf:b.fn=f0) (hbk:b.kind=.normal) (hit:todo.all qy=true) (hd:∀ d∈a.defers,iZ d) (hh:ay OC w)
 {S:Act->World->Prop} (hre:∀ a w τ d,S a w->S a (w.re τ d)) (hrun:∀ τ d,fA Tryd.prog tgt S todo a (w.re τ d)) (hk:∀ a' w',S a' w'->ay OC w'->kU Tryd.prog (G (b.at a' tgt) cs) w' Q):kU Tryd.prog (G (b.at a todo) cs) w Q :=
 yE lT (f0:=f0) ⟨⟨Gz hit,hd,.inl hbk⟩,rfl,hbk,hbf⟩ hh hre hrun fun a' w' h1 h2 _=>hk a' w' h1 h2
theorem Qn (hX:NX V p k D b8 s) {x:SS} (hok:k.Ok) (hx:x.WF) (hlo:∀ i,0<=(x.aP i).1) (hhi:∀ i,(x.aP i).2<=1000) (hV:V.In w) (hh:ay OC w) (hbk:b.kind=.normal)
 {ops:Array Oper} {l:List Nat} {k0:List Item} {i d:Nat} {o:Oper} {y z:Operand} {ats:Array TypeId} (ho:ops[i]? = some o) (hop:o.op=.call {callee:=.value (.func 97),args:=#[y,z,.const (.bool false)],argTypes:=ats}) (hdst:o.dst=some d)
 (hw:Region.wanted o (yielded ops a.tmps)=true) (hok':qj true o.op=true) (hy:a.eval y=ptr p) (hz:a.eval z=.agg (dJ x).toArray)
  (hk:∀ w',Kp w w'->ay OC w'->kU Tryd.prog (G (b.at (a.put (some d) (aJ (dW k x false))) (.inRegion ops l::k0)) cs) w' Q):kU Tryd.prog (G (b.at a (.inRegion ops (i::l)::k0)) cs) w Q:=by
 obtain⟨ts,vv,rv,hC⟩:=hX.cel;have htot:=QA hC hok x hx hlo hhi false hX.cl hX.pD hV hh;refine Ou lT ho hw (by rw[hbk];decide) hok' hh (fun _ _ _=>trivial) fun d=>?_
 rw[run_call_body hop Tryd.func97 zk rfl];intro hhd;have e:Array.map a.eval #[y,z,.const (.bool false)]=#[ptr p,.agg (dJ x).toArray,.bool false]:=by
  simp only[List.map_toArray,List.map_cons,List.map_nil,hy,hz];rfl
 rw[e];have hat:∀ {Q:Goroutine->World->Prop} {g:Goroutine},kU Tryd.prog g w Q->kU Tryd.prog g (w.at d) Q:=fun h=>h.at
 refine hat (xI ho htot (fun v w1 ⟨hv,hk1⟩ hh1=>?_) fun ch w1 ⟨hv,_⟩ _=>nomatch hv);cases hv;rw[hdst];exact hk w1 hk1 hh1
structure N1 (w0:World) (V:View) (b6:Nat) (w:World):Prop where
 kp:Kp w0 w
 vin:V.In w
 e6:w.heap[b6]? = some (.cells #[.int .i64 0] 38 (0,0))
 n6:w0.heap.size<=b6
 off:V b6=none
theorem N1.st (h:N1 w0 V b6 w):St w0 [] V [.blk b6 38 [.int .i64 0]] w :=
 ⟨h.kp.os,h.kp.output,h.kp.size,fun i hi _=>h.kp.old i hi,h.vin,fun e he=>by
  simp only[List.mem_singleton]at he;subst he;exact h.e6,fun e he b hb=>by
  simp only[List.mem_singleton]at he;subst he;cases hb;exact .inl h.n6,fun e he b hb=>by
  simp only[List.mem_singleton]at he;subst he;cases hb;exact h.off,by simp[dF.foot]⟩
theorem N1.aaO (h:St w0 [] V [.blk b6 38 [.int .i64 0]] w):N1 w0 V b6 w :=
 ⟨h.bM,h.view,h.dR,(h.new (.blk b6 38 [.int .i64 0]) (by simp) b6 rfl).elim id (fun h=>nomatch h),h.off _ (List.mem_cons_self ..) b6 rfl⟩
theorem N1.step (h:N1 w0 V b6 w) (hk:Kp w w'):N1 w0 V b6 w':=⟨h.kp.trans hk,h.vin.kp hk,(hk.old b6 (lt_of_heap h.e6)).trans h.e6,h.n6,h.off⟩
theorem N1.but {mb:Nat} (h:N1 w0 V b6 w) (hk:ni mb w w') (hm:w0.heap.size<=mb) (hn:mb≠b6) (hV:V mb=none):N1 w0 V b6 w' :=
 ⟨⟨hk.os.trans h.kp.os,hk.output.trans h.kp.output,Nat.le_trans h.kp.size hk.size,fun i hi=>(hk.old i (Nat.lt_of_lt_of_le hi h.kp.size) zw).trans (h.kp.old i hi)⟩,
  fun j o hj=>by
   have:=h.vin j o hj;rw[hk.old j (lt_of_heap this) (by rintro rfl;rw[hV]at hj;cases hj)];exact this,(hk.old b6 (lt_of_heap h.e6) (Ne.symm hn)).trans h.e6,h.n6,h.off⟩
theorem N1.more {b14:Nat} {o:Obj} (h:N1 w0 V b6 w) (hb:w.heap[b14]? = some o) (hn:b14≠b6) (hV:V b14=none) :
  ∃ V',(∀ j u,V j=some u->V' j=some u)/\V' b14=some o/\(∀ j,j≠b14->V' j=V j)/\N1 w0 V' b6 w:=by
 refine⟨fun j=>if j=b14 then some o else V j,fun j u hj=>?_,by simp,fun j hj=>by simp[hj],⟨h.kp,fun j u hj=>?_,h.e6,h.n6,by simp[Ne.symm hn,h.off]⟩⟩
 ·have:j≠b14:=by rintro rfl;rw [hV] at hj;cases hj
  simp[this,hj]
 ·split at hj
  ·rename_i e;subst e;cases hj;exact hb
  ·exact h.vin j u hj
theorem NX.mono {V':View} (h:NX V p k D b8 s) (hV:∀ j u,V j=some u->V' j=some u):NX V' p k D b8 s :=
 ⟨by obtain⟨ts,x,y,hc⟩:=h.cel;exact⟨ts,x,y,hc.mono hV⟩,h.gv.mono hV,kM h.cl hV,h.pD,h.s8.mono hV⟩
theorem Az:iH.all qy=true:=by kernel_rfl
theorem IK:OM.all qy=true:=by kernel_rfl
theorem U7 (l:List Nat):(Ep l).all qy=true:=(show(Ep []).all qy=true by kernel_rfl)
theorem Ah:jO.all qy=true:=by kernel_rfl
theorem Yl (l:List Nat):(TT l).all qy=true:=(show(TT []).all qy=true by kernel_rfl)
end
theorem yJ {w:World} {b n:Nat} {l:List Nat} (h:jk w b n l) (τ:Nat->Question->Nat) (d:Nat):jk (w.re τ d) b n l:=h.of_heap rfl
theorem Yn {w w':World} {b:Nat} {τ:Nat->Question->Nat} {d:Nat} (h:ni b (w.re τ d) w'):ni b w w':=⟨h.os,h.output,h.size,h.old⟩
theorem Yb {w w':World} {b:Nat} (h:ni b w w') (τ:Nat->Question->Nat) (d:Nat):ni b w (w'.re τ d):=⟨h.os,h.output,h.size,h.old⟩
section
variable {V:View} {w0 w:World} {p:Nat} {k:Wk} {D:List Nat} {b6 b8:Nat} {s:SS} {b:Frame} {cs:List Frame} {Q:Goroutine->World->Prop}
structure N2 (w0:World) (V:View) (b6 b14 mb c:Nat) (r:Int × Int) (l:List Nat) (w:World):Prop where
 n:N1 w0 V b6 w
 r:V.Range b14 0 [.int .i64 r.1,.int .i64 r.2]
 m:∃ cnt,cnt<=c/\jk w mb cnt l
 lm:w0.heap.size<=mb
 vm:V mb=none
 m6:mb≠b6
theorem inner (hX:NX V p k D b8 s) (hok:k.Ok) (hs:s.WF) (hlo:∀ i,0<=(s.aP i).1) (hhi:∀ i,(s.aP i).2<=1000) (err:Int) (he0:0<=err) (he9:err<=9) (i:Nat) (hi:i < k.n) (b14 mb:Nat) (hbf:b.fn=43) (hbk:b.kind=.normal) (v9 v10:Value)
  (hend:∀ w f sh,N1 w0 V b6 w->V.Range b14 0 [.int .i64 (aO k s i).1,.int .i64 (aO k s i).2]->(aO k s i).2+err < sh->ay OC w ->
   kU Tryd.prog (G (b.at ⟨kH (.int .i64 err) (ptr b6) (ptr p) (ptr b8) v9 v10 (.int .i64 i) (.int .i64 (qK k s i err)) (.map (some mb)) (ptr b14) (.int .i64 sh) (.int .i64 k.n) (.int .i64 i) f,[dC b6]⟩ iH) cs) w Q) :
  ∀ (m c:Nat),c+m=Ia (aO k s i) err->∀ w f,N2 w0 V b6 b14 mb c (aO k s i) (Kw k s i err ((aO k s i).1-err) c).1 w->ay OC w ->
   kU Tryd.prog (G (b.at ⟨kH (.int .i64 err) (ptr b6) (ptr p) (ptr b8) v9 v10 (.int .i64 i) (.int .i64 (Kw k s i err ((aO k s i).1-err) c).2) (.map (some mb)) (ptr b14) (.int .i64 ((aO k s i).1-err+c)) (.int .i64 k.n) (.int .i64 i) f,[dC b6]⟩ iH) cs) w Q:=by
 have hn6:k.n<=6:=hok.le;obtain⟨q1,q2,q3,q4⟩:=qE k s i 41 (Nat.le_refl _);rw[show bZ k s i 41=aO k s i from rfl]at q1 q2 q3 q4;have hM:qK k s i err=(Kw k s i err ((aO k s i).1-err) (Ia (aO k s i) err)).2:=rfl;have hNx:∀ c:Nat,Kw k s i err ((aO k s i).1-err) (c+1)=PL k s i err (Kw k s i err ((aO k s i).1-err) c) ((aO k s i).1-err+c):=fun c=>rfl
 rw[hM]at hend;clear hM;have hCnt:Ia (aO k s i) err=((aO k s i).2+err-((aO k s i).1-err)+1).toNat:=rfl;generalize aO k s i=r at *;intro m
 induction m with
 |zero =>
  intro c hc w f hN hh;obtain rfl:c=Ia r err:=by omega
  refine hend w f _ hN.n hN.r ?_ hh;rw[hCnt];omega
 | succ m ih =>
  intro c hc w f hN hh;have hsh0:-9<=r.1-err+(c:Int):=by omega
  have hsh:r.1-err+(c:Int)<=r.2+err:=by omega
  have hnx:=hNx c;obtain⟨st,hst⟩:∃ st,Kw k s i err (r.1-err) c=st:=⟨_,rfl⟩;rw[hst]at hN hnx |-;generalize he1:r.1-err+(c:Int)=sh at *;have he2:r.1-err+((c+1:Nat):Int)=sh+1:=by omega
  have hx:(s.cu i (jA s i err sh)).WF:=hs.cu (Nat.lt_of_le_of_lt Nat.and_le_right (rG _ _));have hxl:(s.cu i (jA s i err sh)).aK i=jA s i err sh:=by
   unfold SS.cu SS.aK;have:i<s.lim.length:=by rw[hs.lim];omega
   simp[List.getD_eq_getElem?_getD,this]
  refine vI (tgt:=OM) hbf hbk Az (CB b6 rfl) hh (S:=fun a w'=>∃ b16,((∃ f,a=⟨kH (.int .i64 err) (ptr b6) (ptr p) (ptr b8) v9 v10 (.int .i64 i) (.int .i64 st.2) (.map (some mb)) (ptr b14) (.int .i64 sh) (.int .i64 k.n) (.int .i64 i) f,[dC b6]⟩)/\a.tmps[16]? = some (ptr b16))/\St w [] V [.blk b16 100 (dJ (s.cu i (jA s i err sh)))] w')
   (fun a w' τ d ⟨b16,h1,h2⟩=>⟨b16,h1,h2.re1 τ d⟩) (fun τ d=>?_) ?_
  ·refine(Z5 (w:=w.re τ d) hX hs err he0 he9 i hi mb b14 r hN.r q3 q4 sh hsh0 hsh (ptr b6) v9 v10 (.int .i64 st.2) (.int .i64 k.n) (.int .i64 i) f hN.n.vin).mono ?_;rintro a w' ⟨b16,h1,h2⟩;exact⟨b16,h1,h2.re0⟩
  ·rintro a w1 ⟨b16,⟨⟨f1,rfl⟩,h16⟩,hS1⟩ hh1;have hf16:f1 16=ptr b16:=Option.some.inj h16;have hkp1:=hS1.bM;have hN1:=hN.n.step hkp1;have hb16:=hS1.dR (b:=b16);have hl16:w.heap.size<=b16:=(hS1.new (.blk b16 100 (dJ (s.cu i (jA s i err sh)))) (by simp) b16 rfl).elim id (fun h=>nomatch h);have h16b6:b16≠b6:=by
    have:=lt_of_heap hN.n.e6;omega
   obtain⟨cnt,hcnt,hmap⟩:=hN.m;have hmap1:jk w1 mb cnt st.1:=hmap.of_heap (hkp1.old mb hmap.lt);have h16m:b16≠mb:=by
    have:=hmap.lt;omega
   obtain⟨V',hVV,hV16,hVo,hN2⟩:=hN1.more hb16 h16b6 (hS1.off _ (List.mem_cons_self ..) b16 rfl);have hX':=hX.mono hVV;have hr16:V'.Range b16 0 (dJ (s.cu i (jA s i err sh))):=fun j v hj=>⟨_,_,_,hV16,by rw[Nat.zero_add];simpa using hj⟩
   have hV'm:V' mb=none:=(hVo mb (Ne.symm h16m)).trans hN.vm;have back:∀ {w2:World} {l2:List Nat} {n2:Nat},n2<=c+1->jk w2 mb n2 l2->N1 w0 V' b6 w2->N2 w0 V b6 b14 mb (c+1) r l2 w2:=fun h1 h2 h3 =>
    ⟨⟨h3.kp,fun j u hj=>h3.vin j u (hVV j u hj),h3.e6,h3.n6,hN.n.off⟩,hN.r,⟨_,h1,h2⟩,hN.lm,hN.vm,hN.m6⟩
   have ihc:=ih (c+1) zw;rw[hnx,he2]at ihc;have hcase:PL k s i err st sh=if st.1.contains (jA s i err sh) || !can k (s.cu i (jA s i err sh)) then st else(jA s i err sh::st.1,max st.2 (oQ (dW k (s.cu i (jA s i err sh)) false))):=rfl
   cases hmet:st.1.contains (jA s i err sh)with
   | true =>
    rw[hmet]at hcase;simp only[Bool.true_or,if_true]at hcase;rw[hcase]at ihc;refine vI (tgt:=iH) hbf hbk IK (CB b6 rfl) hh1 (S:=fun a w'=>(∃ f,a=⟨kH (.int .i64 err) (ptr b6) (ptr p) (ptr b8) v9 v10 (.int .i64 i) (.int .i64 st.2) (.map (some mb)) (ptr b14) (.int .i64 (sh+1)) (.int .i64 k.n) (.int .i64 i) f,[dC b6]⟩)/\Kp w1 w')
     (fun a w' τ d h=>⟨h.1,adC h.2 τ d⟩) (fun τ d=>?_) ?_
    ·refine(UD (w:=w1.re τ d) hX' hx err i hi mb b14 b16 cnt st.1 (yJ hmap1 τ d) hr16 sh hsh0 zw _ _ _ _ _ _ f1 hf16 hN2.vin (by rw[hxl];exact hmet)).mono ?_;rintro a w' ⟨h1,h2⟩;exact⟨h1,uq h2⟩
    ·rintro a w2 ⟨⟨f2,rfl⟩,hk2⟩ hh2;exact ihc w2 f2 (back zw (hmap1.of_heap (hk2.old mb hmap1.lt)) (hN2.step hk2)) hh2
   | false =>
    cases hcan:can k (s.cu i (jA s i err sh))with
    | false =>
     rw[hmet,hcan]at hcase;simp only[Bool.false_or,Bool.not_false,if_true]at hcase;rw[hcase]at ihc;refine vI (tgt:=iH) hbf hbk IK (CB b6 rfl) hh1 (S:=fun a w'=>(∃ f,a=⟨kH (.int .i64 err) (ptr b6) (ptr p) (ptr b8) v9 v10 (.int .i64 i) (.int .i64 st.2) (.map (some mb)) (ptr b14) (.int .i64 (sh+1)) (.int .i64 k.n) (.int .i64 i) f,[dC b6]⟩)/\Kp w1 w')
      (fun a w' τ d h=>⟨h.1,adC h.2 τ d⟩) (fun τ d=>?_) ?_
     ·refine(XY (w:=w1.re τ d) hX' hx err i hi mb b14 b16 cnt st.1 (yJ hmap1 τ d) hr16 sh hsh0 zw _ _ _ _ _ _ f1 hf16 hN2.vin (by rw[hxl];exact hmet) hcan).mono ?_;rintro a w' ⟨h1,h2⟩;exact⟨h1,uq h2⟩
     ·rintro a w2 ⟨⟨f2,rfl⟩,hk2⟩ hh2;exact ihc w2 f2 (back zw (hmap1.of_heap (hk2.old mb hmap1.lt)) (hN2.step hk2)) hh2
    | true =>
     rw[hmet,hcan]at hcase;simp only[Bool.false_or,Bool.not_true,Bool.false_eq_true,if_false]at hcase;rw[hcase]at ihc;simp only at ihc;have hcb:cnt<1000000:=by omega
     refine vI (tgt:=Ep [3,4,5,6]) hbf hbk IK (CB b6 rfl) hh1 (S:=fun a w'=>((∃ f,a=⟨kH (.int .i64 err) (ptr b6) (ptr p) (ptr b8) v9 v10 (.int .i64 i) (.int .i64 st.2) (.map (some mb)) (ptr b14) (.int .i64 sh) (.int .i64 k.n) (.int .i64 i) f,[dC b6]⟩) /\
       a.tmps[90]? = some (.int .i64 st.2)/\a.tmps[91]? = some (ptr p)/\a.tmps[92]? = some (.agg (dJ (s.cu i (jA s i err sh))).toArray))/\jk w' mb (cnt+1) ((s.cu i (jA s i err sh)).aK i::st.1)/\ni mb w1 w')
      (fun a w' τ d h=>⟨h.1,yJ h.2.1 τ d,Yb h.2.2 τ d⟩) (fun τ d=>?_) ?_
     ·refine(U8 (w:=w1.re τ d) hX' hx err i hi mb b14 b16 cnt st.1 (yJ hmap1 τ d) hr16 sh hsh0 zw _ _ _ _ _ _ f1 hf16 hN2.vin (by rw[hxl];exact hmet) hcan hcb hV'm).mono ?_;rintro a w' ⟨h1,h2,h3⟩;exact⟨h1,h2,Yn h3⟩
     ·rintro a w2 ⟨⟨⟨f2,rfl⟩,h90,h91,h92⟩,hm2,hk2⟩ hh2;rw [hxl] at hm2;have hN3:=hN2.but hk2 hN.lm hN.m6 hV'm;have e91:f2 91=ptr p:=Option.some.inj h91;have e92:f2 92=.agg (dJ (s.cu i (jA s i err sh))).toArray:=Option.some.inj h92;have e90:f2 90=.int .i64 st.2:=Option.some.inj h90;refine Qn hX' hok hx hlo hhi hN3.vin hh2 hbk (o:=YE[3]!) (y:=.tmp 91) (z:=.tmp 92) (d:=93) rfl rfl rfl rfl rfl e91 e92 fun w3 hk3 hh3=>?_
      have hN4:=hN3.step hk3;have hb:=GH k hn6 (s.cu i (jA s i err sh)) false hlo;obtain⟨tt,htt⟩:∃ tt,dW k (s.cu i (jA s i err sh)) false=tt:=⟨_,rfl⟩;rw[htt]at hb ihc |-;have eA:(Act.put ⟨kH (.int .i64 err) (ptr b6) (ptr p) (ptr b8) v9 v10 (.int .i64 i) (.int .i64 st.2) (.map (some mb)) (ptr b14) (.int .i64 sh) (.int .i64 k.n) (.int .i64 i) f2,[dC b6]⟩ (some 93) (aJ tt)) =
        ⟨kH (.int .i64 err) (ptr b6) (ptr p) (ptr b8) v9 v10 (.int .i64 i) (.int .i64 st.2) (.map (some mb)) (ptr b14) (.int .i64 sh) (.int .i64 k.n) (.int .i64 i) (fun j=>if j=93 then aJ tt else f2 j),[dC b6]⟩:=rfl
      rw[eA];refine vI (tgt:=iH) hbf hbk (U7 [4,5,6]) (CB b6 rfl) hh3 (S:=fun a w'=>(∃ f,a=⟨kH (.int .i64 err) (ptr b6) (ptr p) (ptr b8) v9 v10 (.int .i64 i) (.int .i64 (max st.2 (oQ tt))) (.map (some mb)) (ptr b14) (.int .i64 (sh+1)) (.int .i64 k.n) (.int .i64 i) f,[dC b6]⟩)/\Kp w3 w')
       (fun a w' τ d h=>⟨h.1,adC h.2 τ d⟩) (fun τ d=>?_) ?_
      ·refine(aat (w:=w3.re τ d) st.2 sh hsh0 zw _ _ _ _ _ _ _ _ _ _ _ (fun j=>if j=93 then aJ tt else f2 j) tt (hb.mono zw) (by simp) (by simp[e90]) hN4.vin).mono ?_;rintro a w' ⟨h1,h2⟩;exact⟨h1,uq h2⟩
      ·rintro a w4 ⟨⟨f4,rfl⟩,hk4⟩ hh4;have hm3:=hm2.of_heap (hk3.old mb hm2.lt);exact ihc w4 f4 (back zw (hm3.of_heap (hk4.old mb hm3.lt)) (hN4.step hk4)) hh4
end
end Go.Proofs.YtjjmefieegcddaaDoor
