/- A part of the proof: W76. -/
import Derived.Test.YtjjmefieegcddaaDoorM11
import Derived.Scope
import Derived.Deep.OwnRows
import Derived.Shelf.Abstract
set_option linter.unusedVariables false
set_option linter.unusedSimpArgs false
set_option maxHeartbeats 8000000
namespace Go.Proofs.YtjjmefieegcddaaDoor
open Go.RowKit Go.Wg Go.Mm
variable {o:Oper} {ρ:Operand->Value} {c l x y:Operand} {bh i n:Nat} {ops:Array Oper} {rest:List Oper} {a:Act} {Q:Exit->Act->World->Prop} {d:Option Tmp} {t:TypeId} {p:String} {af:Array Edge} {g:Option (Nat × Bool)} {ats:Array TypeId} {b cn:Int} {lv:Value}
variable {w:World} {V:View}
theorem UZ (ho:o.op=.makeSlice 30 l c) (hl:ρ l=.int .i64 (n:Int)) (hc:ρ c=.int .i64 (n:Int)) (hn:n<=1000) (w:World) :
  (execOp ρ o).run Tryd.prog w=.ok (.value (.slice (some ⟨w.heap.size,0,none⟩) n n)) (w.alloc (.cells (aV (List.replicate n 0)).toArray 3)):=by
 have h:=run_make_row' (P:=Tryd.prog) 30 3 (.int .i64 0) 8 Tryd.underlying30 zk rfl .i64 .i64 n zw zw w;have e:madeCells #[.int .i64 0] n=(aV (List.replicate n 0)).toArray:=by
  apply Array.ext';rw[toList_madeCells_one];simp[aV]
 rw[e]at h;unfold execOp;simp[ho,hl,hc,h,Sem.run_bind,Result.andThen]
theorem U6 (d:Nat) {w0:World} {X:List Nat} {L:List dF} (_hd:o.dst=some d) (hS:St w0 X V L w) (hgd:Region.wanted o (yielded ops a.tmps)=true) (ho:o.op=.makeSlice 30 l c)
 (hl:a.eval l=.int .i64 (n:Int)) (hc:a.eval c=.int .i64 (n:Int)) (hn:n<=1000)
  (h:∀ b a',a.put o.dst (.slice (some ⟨b,0,none⟩) n n)=a'->∀ w',St w0 X V (.blk b 3 (aV (List.replicate n 0))::L) w'->wpList Tryd.prog ops Q rest a' w'):wpList Tryd.prog ops Q (o::rest) a w :=
 dU hgd (UZ ho hl hc hn w) (h _ _ rfl _ (hS.alloc 3 (aV (List.replicate n 0))))
theorem gMk (h:wpList Tryd.prog ops Q (⟨d,.makeSlice 30 x y,t,p,af,g⟩::rest) a w):wpList Tryd.prog ops Q (⟨d,.makeSlice 30 x y,t,p,af,g⟩::rest) a w:=h
theorem Eb {a:Int} (ho:o.op=.call {callee:=.builtin .min,args:=#[x,y],argTypes:=ats}) (hx:ρ x=.int .i64 a) (hy:ρ y=.int .i64 b) (w:World) :
  (execOp ρ o).run Tryd.prog w=.ok (.value (.int .i64 (min a b))) w:=by
 have e:(if b<a then b else a)=min a b:=by
  split<;>omega
 unfold execOp;simp[ho,resolve,invoke,builtin,hx,hy,go_sem,e]
theorem vW {a:Int} (ho:o.op=.call {callee:=.builtin .max,args:=#[x,y],argTypes:=ats}) (hx:ρ x=.int .i64 a) (hy:ρ y=.int .i64 b) (w:World) :
  (execOp ρ o).run Tryd.prog w=.ok (.value (.int .i64 (max a b))) w:=by
 have e:(if b > a then b else a)=max a b:=by
  split<;>omega
 unfold execOp;simp[ho,resolve,invoke,builtin,hx,hy,go_sem,e]
theorem gMn {xs:Array Operand} {ats:Array TypeId} {t:TypeId} {p:String} {af:Array Edge} {g:Option (Nat × Bool)} {rest:List Oper} {a:Act} (h:wpList Tryd.prog ops Q (⟨d,.call {callee:=.builtin .min,args:=xs,argTypes:=ats},t,p,af,g⟩::rest) a w):wpList Tryd.prog ops Q (⟨d,.call {callee:=.builtin .min,args:=xs,argTypes:=ats},t,p,af,g⟩::rest) a w:=h
theorem gMx {xs:Array Operand} {ats:Array TypeId} {t:TypeId} {p:String} {af:Array Edge} {g:Option (Nat × Bool)} {rest:List Oper} {a:Act} (h:wpList Tryd.prog ops Q (⟨d,.call {callee:=.builtin .max,args:=xs,argTypes:=ats},t,p,af,g⟩::rest) a w):wpList Tryd.prog ops Q (⟨d,.call {callee:=.builtin .max,args:=xs,argTypes:=ats},t,p,af,g⟩::rest) a w:=h
theorem xB.to {cn':Int} (h:xB V bh lv cn) (h1:cn<=cn') (h2:cn'<=1000000):xB V bh lv cn':=⟨h.list,Int.le_trans h.pos h1,h2⟩
theorem VG (l:List nN):∀ u∈fD l,u.oneCell'=true:=fun u hu=>by
 obtain⟨v,_,hv⟩:=List.mem_flatMap.1 hu;exact nN.one v u hv
theorem JA {l:List nN} {f:Int} (hl:l.length=i) (h:∀ j,j<i->-1<=(l.getD j default).from_/\(l.getD j default).from_<j) (h1:-1<=f) (h2:f<i):∀ j,j<i+1->-1<=((l ++ [(⟨f,0,0,0⟩:nN)]).getD j default).from_/\((l ++ [(⟨f,0,0,0⟩:nN)]).getD j default).from_<j:=fun j hj=>by
 rw[List.getD_eq_getElem?_getD];by_cases e:j<i
 ·rw[List.getElem?_append_left zw,<- List.getD_eq_getElem?_getD];exact h j e
 ·obtain rfl:j=i:=by omega
  rw[List.getElem?_append_right zw];simp[hl,h1,h2]
theorem jJ (l:List Int) (i:Nat) (x:Int):(aV l).set i (.int .i64 x)=aV (l.set i x):=by simp[aV]
theorem Nk {l:List Int} {x:Int} (h:i<l.length):(aV (l.set i x))[i]? = some (.int .i64 x):=by
 rw[<- jJ,List.getElem?_set_self (by rw[iD];exact h)]
theorem Fe {l:List Int} {k:Nat} {x:Int} (h:(aV l).length=k):(aV (l.set i x)).length=k:=by
 rw[<- jJ,List.length_set];exact h
theorem lF (l:List je):∀ u∈fH l,u.oneCell'=true:=fun u hu=>by
 obtain⟨v,_,hv⟩:=List.mem_flatMap.1 hu;exact je.one v u hv
theorem Np (l m:List je):fH l ++ fH m=fH (l ++ m):=by simp[fH]
theorem KR (x:Value) (l:List Value) (i:Nat) (vs:List Value):splice (x::l) (i+1) vs=x::splice l i vs:=by
 simp only[splice,List.take_succ_cons,List.cons_append,Nat.add_right_comm i 1 vs.length,List.drop_succ_cons]
theorem XP (l:List nN) (pad:List Value) (q:Nat) (hq:q<l.length) (room lo hi:Int):(splice (fD l ++ pad) (q * 4+2) [.int .i64 lo,.int .i64 hi]).set (q * 4+1) (.int .i64 room)=fD (l.set q ⟨(l.getD q default).from_,room,lo,hi⟩) ++ pad:=by
 induction l generalizing q with
 |nil=>simp at hq
 | cons v l ih =>
  cases q with
  |zero=>simp[fD,nN.cells,splice]
  |succ q =>
   have h:=ih q (by simpa using hq);rw[show(q+1) * 4+2=q * 4+2+1+1+1+1 by omega,show(q+1) * 4+1=q * 4+1+1+1+1+1 by omega];simp only[fD,List.flatMap_cons,nN.cells,List.cons_append,List.nil_append,KR,List.set_cons_succ,List.getD_cons_succ]at h |-;rw[h]
theorem Z4 (l:List nN) (pad:List Value) (q:Nat) (hq:q<l.length):(fD l ++ pad)[q * 4]? = some (.int .i64 (l.getD q default).from_):=by
 have:=Ei nN.cells (fun _=>rfl) l q (l.getD q default) (by simp[List.getD_eq_getElem?_getD,List.getElem?_eq_getElem hq]) 0 (by decide);rw[List.getElem?_append_left (by rw[fD,jK _ (fun _=>rfl)];omega)];exact this
theorem uO (l m:List nN):fD l ++ fD m=fD (l ++ m):=by simp[fD]
set_option maxRecDepth 40000 in
theorem Ub {st:Int} (hh:xB V bh lv cn) (hc9:cn<=900000) {vessels room:Int} (hv:1<=vessels/\vessels<=6) (hr:1<=room/\room<=40) (hV:V.In w) (hVb:V bh=none) (hg:w.heap[bh]? = some (.cells (bn lv cn st).toArray 90 (0,0))) :
  Calls Tryd.prog 38 #[.pointer (some ⟨bh,0,none⟩),.int .i64 vessels,.int .i64 room] w fun e w'=>∃ (k:Wk) (ws:List Int) (vv rv mv:Value) (cn' st':Int),e=.returned (.tuple #[.agg #[vv,rv],mv])/\k.Ok/\(k.n:Int)<=vessels/\k.rdg.length<=4/\Truth k ws/\cn<=cn'/\cn'<=cn+100 /\
   St w [bh] V [.row mv 3 1 k.n (aV ws),.row vv 29 4 k.n (fD k.ves),.row rv 59 4 k.rdg.length (fH k.rdg),.blk bh 90 (bn lv cn' st')] w':=by
 have hS:=St.xW w V hV hg hVb;have hto:=fun(c:Int) (h1:cn<=c) (h2:c<=1000000)=>hh.to h1 h2
 clear hg;go_enter Tryd.func38,Tryd.ntmps38
 go_wp2_with (first|(refine ya 6 ?_;clear hS;intro b6 w' hS)|(refine ya 8 ?_;clear hS;intro b8 w' hS)|(go_at_call 95;refine eF hS ⟨1,_,fun _ hg=>Qi hh zw (St.view hS) hVb hg,?_⟩;clear hS;intro v c1 s1 w' hp k1 k2 hS;(try simp only[sE]at hS);obtain⟨x,rfl,hx0,hx1⟩:=hp;obtain⟨n,hn⟩:∃ m:Nat,x=(m:Int):=⟨x.toNat,by omega⟩;subst hn)|((with_reducible refine gMk ?_);refine U6 25 rfl hS rfl rfl rfl rfl zw ?_;clear hS;intro b25;refine zF ?_;intro w' hS)|((with_reducible refine gMk ?_);refine U6 27 rfl hS rfl rfl rfl rfl zw ?_;clear hS;intro b27;refine zF ?_;intro w' hS))
 replace hS:=hS.nilRow 29 4;go_loopw [12] (fun iv wr=>∃ (i:Nat) (va:Value) (l:List nN) (c2 s2:Int),iv=.int .i64 (i:Int)/\i<=n/\l.length=i/\(∀ j,j<i->-1<=(l.getD j default).from_/\(l.getD j default).from_<j)/\cn<=c2/\c2<=cn+1+2 * i /\
  St w [bh] V [.row va 29 4 i (fD l),.blk b27 3 (aV (List.replicate n 0)),.blk b25 3 (aV (List.replicate n 0)),.blk b8 25 [va,.slice none 0 0],.blk b6 25 [.slice none 0 0,.slice none 0 0],.blk bh 90 (bn lv c2 s2)] wr) (fun iv _=>n-(intOf iv).toNat)
 case atStart =>
  exact⟨0,.slice none 0 0,[],c1,s1,rfl,by omega,rfl,(fun j hj=>absurd hj zw),k1,by omega,hS⟩
 case round =>
  clear hS;obtain⟨i,va,l,c2,s2,rfl,hin,hl,hfr,k3,k4,hS⟩:=hrel;by_cases hlt:i<n
  ·have hlt':(i:Int) < n:=by omega
   have h0i:(0:Int)<=i:=by omega
   by_cases hi0:0<i
   ·have hi0':(0:Int) < i:=by omega
    go_wp2_with (first|(refine ym ?_;clear hS;intro w' hS)|(refine ys ?_;clear hS;intro w' hS)|(go_at_call 72;refine eF hS ⟨1,_,fun _ hg=>TG (hto _ zw zw) zw (St.view hS) hVb hg,?_⟩;clear hS;intro v c3 s3 w' hp k5 k6 hS;(try simp only[sE]at hS);obtain⟨x,rfl⟩:=hp)|(go_at_call 39;refine eF hS ⟨1,_,fun _ hg=>xC (hto _ zw zw) zw (St.view hS) hVb hg,?_⟩;clear hS;intro v c4 s4 w' hp k7 k8 hS;(try simp only[sE]at hS);obtain⟨y,rfl,hy0,hy1⟩:=hp)|((with_reducible refine uP ?_);refine zU hS rfl (pK (a:=⟨_,0,0,0⟩) rfl rfl) ?_;clear hS;intro _ a' hp;(try simp only[fr]at hp);subst hp;intro w' hS)|(refine yp ?_;clear hS;intro va w' hS;have hva:=dY hS va))
    all_goals go_roundw
    ·rw[uO]at hS;exact⟨i+1,va,l ++ [⟨y,0,0,0⟩],c4,s4,by go_num,by omega,by simp[hl],JA hl hfr zw zw,by omega,by omega,hS.aG⟩
    ·simp only[intOf];omega
    ·rw[uO]at hS;exact⟨i+1,va,l ++ [⟨-1,0,0,0⟩],c3,s3,by go_num,by omega,by simp[hl],JA hl hfr zw zw,by omega,by omega,hS.aG⟩
    ·simp only[intOf];omega
   ·obtain rfl:i=0:=by omega
    go_wp2_with (first|(refine ym ?_;clear hS;intro w' hS)|(refine ys ?_;clear hS;intro w' hS)|((with_reducible refine uP ?_);refine zU hS rfl (pK (a:=⟨_,0,0,0⟩) rfl rfl) ?_;clear hS;intro _ a' hp;(try simp only[fr]at hp);subst hp;intro w' hS)|(refine yp ?_;clear hS;intro va w' hS;have hva:=dY hS va))
    go_roundw
    case rel=>rw[uO]at hS;exact⟨1,va,l ++ [⟨-1,0,0,0⟩],c2,s2,by go_num,by omega,by simp[hl],JA hl hfr zw zw,by omega,by omega,hS.aG⟩
    case measure=>simp only[intOf];omega
  ·obtain rfl:i=n:=by omega
   have hn0:0<i:=by omega
   obtain⟨gv,cap,pad,rfl,q1,q2,q3,q4,q5,hS⟩:=QC hS hn0;have hm0:=Gf l i hl hfr;have hpl:i * 4+pad.length=cap * 4:=by rw[List.length_append,q3]at q4;exact q4
   clear q3 q4;go_wp2_with (fail)
   go_loopw [14] (fun iv wr=>∃ (z:Int) (m:Nat) (l:List nN) (ws ss:List Int) (c3 s3:Int),iv=.int .i64 z/\z+1=m/\m<=i/\nZ l ws ss i m/\cn<=c3/\c3<=cn+13+6 * (i-m) /\
    St w [bh] V [.blk gv 29 (fD l ++ pad),.blk b27 3 (aV ss),.blk b25 3 (aV ws),.blk b8 25 [.slice (some ⟨gv,0,none⟩) i cap,.slice none 0 0],.blk b6 25 [.slice none 0 0,.slice none 0 0],.blk bh 90 (bn lv c3 s3)] wr) (fun iv _=>(intOf iv+1).toNat)
   case atStart=>exact⟨(i:Int)-1,i,l,_,_,_,_,by go_num,by omega,Nat.le_refl _,hm0,by omega,by omega,hS⟩
   case round =>
    clear hS;clear hm0 hfr hl;obtain⟨z,m,l,ws,ss,c3,s3,rfl,hzm,hmi,hM,k5,k6,hS⟩:=hrel;by_cases hm:m=0
    ·subst hm;obtain rfl:z=-1:=by omega
     have hMH:=hM;replace hMH:=aj hMH;replace hS:=hS.nilRow 59 4;go_wp2_with (go_at_call 39;refine eF hS ⟨1,_,fun _ hg=>xC (hto _ zw zw) zw (St.view hS) hVb hg,?_⟩;clear hS;intro v c4 s4 w' hp k7 k8 hS;(try simp only[sE]at hS);obtain⟨y,rfl,hy0,hy1⟩:=hp)
     go_loopw [19] (fun iv wr=>∃ (z:Int) (rv:Value) (r:List je) (c5 s5:Int),iv=.int .i64 z/\z+r.length<=4/\z<=4/\0<=z/\(∀ x∈r,x.Ok i/\x.shown-x.err<=ws.getD x.vessel.toNat 0/\ws.getD x.vessel.toNat 0<=x.shown+x.err)/\cn<=c5/\c5<=cn+14+6 * i+4 * r.length /\
      St w [bh] V [.row rv 59 4 r.length (fH r),.blk gv 29 (fD l ++ pad),.blk b27 3 (aV ss),.blk b25 3 (aV ws),.blk b8 25 [.slice (some ⟨gv,0,none⟩) i cap,rv],.blk b6 25 [.slice none 0 0,.slice none 0 0],.blk bh 90 (bn lv c5 s5)] wr) (fun iv _=>(intOf iv).toNat)
     case atStart=>exact⟨y,.slice none 0 0,[],c4,s4,rfl,by simp;omega,by omega,by omega,(fun x hx=>nomatch hx),by omega,by simp;omega,hS⟩
     case round =>
      clear hS;obtain⟨z,rv,r,c5,s5,rfl,u1,u2,u3,u4,u5,u6,hS⟩:=hrel;by_cases hz:0<z
      ·go_wp2_with (first | (refine ys ?_;clear hS;intro w' hS) | (refine ya 20 ?_;clear hS;intro b20 w' hS) | (refine yc 179 ?_;clear hS;intro b179 w' hS) | (go_at_call 39;have hz0:=hvnFlag;refine eF hS ⟨1,_,fun _ hg=>xC (hto _ zw zw) zw (St.view hS) hVb hg,?_⟩;clear hS;intro v cB sB w' hp j3 j4 hS;(try simp only [sE] at hS);obtain ⟨xs,rfl,hxs0,hxs1⟩:=hp) | (go_at_call 39;refine eF hS ⟨1,_,fun _ hg=>xC (hto _ zw zw) zw (St.view hS) hVb hg,?_⟩;clear hS;intro v cA sA w' hp j1 j2 hS;(try simp only [sE] at hS);obtain ⟨xa,rfl,hxa,hxb⟩:=hp;obtain ⟨vn,hvn⟩:∃ m:Nat,xa=(m:Int):=⟨xa.toNat,by omega⟩;subst hvn;have hvnFlag:True:=trivial) | (go_at_call 91;refine eF hS ⟨1,_,fun _ hg=>tH (b:=b179) (hto _ zw zw) hS.dR ⟨rfl,by decide,by decide⟩ (St.view hS) hVb (zf hS (by decide)) hg,?_⟩;clear hS;intro v c6 s6 w' hp k9 k10 hS;(try simp only [sE] at hS);obtain ⟨x,rfl,hx⟩:=hp;have hx':0<=x/\x<=2:=(by simp only [List.mem_cons,List.not_mem_nil,or_false] at hx;omega);clear hx))
       have hvi:vn<i:=by omega
       have hvi':(vn:Int)<i:=by omega
       have h0v:(0:Int)<=vn:=by omega
       obtain⟨⟨_,_,_,ho4,_⟩,ho2,ho3⟩:=hM.ok vn zw hvi;have hcw:(aV ws)[vn]? = some (.int .i64 (ws.getD vn 0)):=nI rfl (by rw[hM.wl];exact hvi);have hwb:0<=ws.getD vn 0/\ws.getD vn 0<=40:=⟨ho2,by omega⟩;generalize hwv:ws.getD vn 0=wv at hcw hwb;clear ho2 ho3 ho4;replace hwv:=aj hwv;(refine bF (S:=(fun w=>w.cell? ⟨b20,0,none⟩=some (.int .i64 (vn:Int))/\w.cell? ⟨b20,3,none⟩=some (.int .i64 x)/\w.cell? ⟨b25,vn,none⟩=some (.int .i64 wv))) (List.replicate 16 false) rfl zk ?_;replace hS:=St.eY hS;(refine yh [.m 0,.p 1] ?_);(refine CU 2 rfl zk zk zk (fun _ _ _ _ h=>h) rfl ⟨aX hS.dR rfl,aX hS.dR rfl,aX hS.dR (by assumption)⟩ rfl rfl ?_;refine⟨_,(fun w h=>(by exact h.1)),?_⟩;refine zH ?_);(refine yh [.p 3] ?_);(refine CU 4 rfl zk zk zk (fun _ _ _ _ h=>h) rfl ⟨aX hS.dR rfl,aX hS.dR rfl,aX hS.dR (by assumption)⟩ rfl rfl ?_;refine⟨_,(fun w h=>(by exact h.2.2)),?_⟩;refine zH ?_);(refine yh [.m 5,.p 6] ?_);(refine CU 7 rfl zk zk zk (fun _ _ _ _ h=>h) rfl ⟨aX hS.dR rfl,aX hS.dR rfl,aX hS.dR (by assumption)⟩ rfl rfl ?_;refine⟨_,(fun w h=>(by exact h.2.1)),?_⟩;refine zH ?_);(refine yh [.p 8,.p 9] ?_);(refine CU 10 rfl zk zk zk (fun _ _ _ _ h=>h) rfl ⟨aX hS.dR rfl,aX hS.dR rfl,aX hS.dR (by assumption)⟩ rfl rfl ?_;refine⟨_,(fun w h=>(by exact h.2.1)),?_⟩;refine zH ?_);(refine yC (bh:=bh) 11 zk rfl hS rfl  ?_;refine⟨_,_,zo,?_⟩;refine⟨1,_,(fun _ hg=>Qi (hto _ zw zw) zw (St.view hS) hVb hg),?_⟩;clear hS;intro v c193 s193 a' l' hpr hc193 hd193 hp hl;obtain⟨x193,rfl,hx193⟩:=hpr;  (try simp only[fr]at hp);(try simp only[sB]at hl);subst hp;subst hl;intro w' hS;(try simp only[sE]at hS);refine⟨⟨aX hS.dR rfl,aX hS.dR rfl,aX hS.dR (by assumption)⟩,?_⟩);(refine yh [.p 12] ?_);(refine dw 13 rfl zk zk zk (fun _ _ _ _ h=>h) rfl ⟨aX hS.dR rfl,aX hS.dR rfl,aX hS.dR (by assumption)⟩ ?_;refine⟨_,(fun w=>vW rfl rfl rfl w),?_⟩;refine zH ?_);(refine yh [.p 14] ?_);((refine jl 15 zk rfl hS rfl  rfl rfl ?_;refine⟨_,zd,?_⟩);clear hS;refine zH ?_;intro w' hS;(try simp only[sE]at hS);refine⟨⟨aX hS.dR rfl,aX hS.dR rfl,aX hS.dR (by assumption)⟩,?_⟩);refine wpAnyH_done zk ?_ _)
       go_wp2_with (first|(refine ym ?_;clear hS;intro w' hS)|(refine ys ?_;clear hS;intro w' hS)|((with_reducible refine uP ?_);refine zU hS rfl (oP (a:=⟨vn,xs,_,x⟩) rfl rfl) ?_;clear hS;intro _ a' hp;(try simp only[fr]at hp);subst hp;intro w' hS)|(refine yp ?_;clear hS;intro va w' hS;have hva:=dY hS va))
       go_roundw
       case rel =>
        rw[Np]at hS;have el:(r ++ [(⟨vn,xs,max 0 (wv+x193),x⟩:je)]).length=r.length+1:=by simp
        refine⟨z-1,va,r ++ [⟨vn,xs,max 0 (wv+x193),x⟩],c193,s193,rfl,by rw[el];omega,by omega,by omega,fun y hy=>?_,by omega,by rw[el];omega,?_⟩
        ·rcases List.mem_append.1 hy with hy | hy
         ·exact u4 y hy
         ·rw [List.mem_singleton] at hy;subst hy;refine ⟨⟨h0v,hvi',hxs0,?_,?_,?_,hx'.1,?_⟩,?_,?_⟩
          ·show xs<=2;omega
          ·show 0<=max 0 (wv+x193);omega
          ·show max 0 (wv+x193)<=60;omega
          ·show x<=9;omega
          ·show max 0 (wv+x193)-x<=ws.getD vn 0;rw[hwv.out];omega
          ·show ws.getD vn 0<=max 0 (wv+x193)+x;rw[hwv.out];omega
        ·rw[el];exact hS.aG
       case measure=>simp only[intOf];omega
      ·obtain rfl:z=0:=by omega
       have hrv:=dY hS rv;have hone2:∀ v∈[Value.slice (some ⟨gv,0,none⟩) i cap,rv],v.oneCell'=true:=fun v hv=>by
        rcases List.mem_cons.1 hv with rfl|hv
        ·rfl
        ·rw[List.mem_singleton]at hv;subst hv;exact hrv
       go_wp2_with (first|(refine ym ?_;clear hS;intro w' hS)|(refine ys ?_;clear hS;intro w' hS))
       (refine yj ?_;refine bK ⟨_,by exact dA (r1:=.cell 6 25) (r2:=.tmp 7) zk (by exact rX hS rfl zd) (by exact bD rfl),?_⟩ rfl)
       obtain⟨d1,d2⟩:=hMH.out.done hn0 zw (rs:=r) zw u4;refine⟨⟨l,r⟩,ws,_,_,_,rfl,d1,?_,by show r.length<=4;omega,d2,c5,by omega,by omega,s5,?_⟩
       ·show(l.length:Int)<=vessels;rw[hM.ll];omega
       ·have h1:St w [bh] V [.row rv 59 4 r.length (fH r),.blk gv 29 (fD l ++ pad),.blk b25 3 (aV ws),.blk bh 90 (bn lv c5 s5)] _:=hS.aG;have el:(fD l).length=i * 4:=by rw [fD,jK _ (fun _=>rfl),hM.ll]
        have h2:=XT (n:=i) (s:=4) (cap:=cap) (h1.perm (List.Perm.swap _ _ _)) q1 q2 el (by rw[List.length_append,el];exact hpl) q5;have h3:=Fv (n:=i) (s:=1) (h2.perm (List.perm_middle (l₁:=[_,_]))) (by rw[iD,hM.wl,Nat.mul_one]) (by unfold maxLen;omega);show St w [bh] V [.row _ 3 1 l.length (aV ws),.row _ 29 4 l.length (fD l),.row rv 59 4 r.length (fH r),.blk bh 90 (bn lv c5 s5)] _;rw[hM.ll];exact h3
    ·obtain ⟨q,rfl⟩:∃ q,m=q+1:=⟨m - 1,by omega⟩;obtain rfl:z=(q:Int):=by omega
     clear hzm;have h0q:(0:Int)<=q:=by omega
     have hqi:q<i:=by omega
     go_wp2_with (fail)
     go_loopw [15,16] (fun bv kv wr=>∃ kk:Nat,q<kk/\kk<=i/\kv=.int .i64 (kk:Int)/\bv=.bool (nT (fun k=>(l.getD k default).from_) q (kk-(q+1))) /\
      St w [bh] V [.blk gv 29 (fD l ++ pad),.blk b27 3 (aV ss),.blk b25 3 (aV ws),.blk b8 25 [.slice (some ⟨gv,0,none⟩) i cap,.slice none 0 0],.blk b6 25 [.slice none 0 0,.slice none 0 0],.blk bh 90 (bn lv c3 s3)] wr) (fun bv kv _=>i-(intOf kv).toNat)
     case atStart=>exact⟨q+1,by omega,by omega,by go_num,by simp[nT],hS⟩
     case round =>
      clear hS;obtain⟨kk,g1,g2,rfl,rfl,hS⟩:=hrel;have h0k:(0:Int)<=kk:=by omega
      by_cases hkl:kk<i
      ·have hkl':(kk:Int) < i:=by omega
       have hnx:nT (fun k=>(l.getD k default).from_) q (kk+1-(q+1))=(nT (fun k=>(l.getD k default).from_) q (kk-(q+1)) || decide ((l.getD kk default).from_=(q:Int))):=by
        rw[show kk+1-(q+1)=(kk-(q+1))+1 by omega,nT,show q+1+(kk-(q+1))=kk by omega]
       have hcell:(fD l ++ pad)[kk * 4]? = some (.int .i64 (l.getD kk default).from_):=by
        have hkl2:kk<l.length:=by rw[hM.ll];exact hkl
        have:=Ei nN.cells (fun _=>rfl) l kk (l.getD kk default) (by simp[List.getD_eq_getElem?_getD,List.getElem?_eq_getElem hkl2]) 0 (by decide);rw[List.getElem?_append_left (by rw[fD,jK _ (fun _=>rfl)];omega)];exact this
       have hcell0:(fD l ++ pad)[kk * 4+0]? = some (.int .i64 (l.getD kk default).from_):=hcell;generalize (l.getD kk default).from_=fk at hcell hcell0 hnx;cases hb:nT (fun k=>(l.getD k default).from_) q (kk-(q+1))with
       |true =>
        rw[hb,Bool.true_or]at hnx;replace hnx:=aj hnx;replace hb:=aj hb;go_wp2_with (fail)
        go_roundw
        case rel=>exact⟨kk+1,by omega,by omega,by go_num,by rw[hnx.out],hS⟩
        case measure=>simp only[intOf];omega
       |false =>
        rw[hb,Bool.false_or]at hnx;replace hnx:=aj hnx;replace hb:=aj hb;go_wp2_with (refine yy ?_;clear hS;intro w' hS)
        go_roundw
        case rel=>exact⟨kk+1,by omega,by omega,by go_num,by rw[hnx.out];rfl,hS⟩
        case measure=>simp only[intOf];omega
      ·obtain rfl:kk=i:=by omega
       clear hkl;have hiff:=OD (fun k=>(l.getD k default).from_) q kk hqi (fun j hj=>(hM.fr j hj).2);have hsb:=hM.bound zw zw (j:=q) zw;have hcS:(aV ss)[q]? = some (.int .i64 (ss.getD q 0)):=nI rfl (by rw[hM.sl];exact hqi);have hlS:(aV ss).length=kk:=by rw[iD,hM.sl]
       have hlW:(aV ws).length=kk:=by rw[iD,hM.wl]
       have hqi':(q:Int)<kk:=by omega
       have hlS':q<ss.length:=by rw[hM.sl];exact hqi
       have hlW':q<ws.length:=by rw[hM.wl];exact hqi
       have hlS2:∀ y,(aV (ss.set q y)).length=kk:=fun y=>Fe hlS
       generalize hs0:ss.getD q 0=s0 at hcS hsb;cases hb:nT (fun k=>(l.getD k default).from_) q (kk-(q+1));focus
        replace hb:=aj hb;replace hiff:=aj hiff;go_wp2_with (first|(refine ym ?_;clear hS;intro w' hS;try (simp only[jJ]at hS))|(refine ys ?_;clear hS;intro w' hS;try (simp only[jJ]at hS))|(go_at_call 39;refine eF hS ⟨1,_,fun _ hg=>xC (hto _ zw zw) zw (St.view hS) hVb hg,?_⟩;clear hS;intro v c4 s4 w' hp k7 k8 hS;(try simp only[sE]at hS);obtain⟨y,rfl,hy0,hy1⟩:=hp)|((with_reducible refine gMx ?_);refine Gx rfl (vW rfl rfl rfl) ?_;refine zF ?_)|((with_reducible refine gMn ?_);refine Gx rfl (Eb rfl rfl rfl) ?_;refine zF ?_))
        all_goals (
         have hpk:∃ (s wt:Int) (ss1:List Int) (cA sA:Int),((∃ k,k<kk/\(l.getD k default).from_=(q:Int))->s=ss.getD q 0)/\(0<=s/\s<=240)/\(0<=wt/\wt<=40/\wt-s<=4)/\(ss1.length=kk/\ss1.getD q 0=s/\∀ j,j<q->ss1.getD j 0=ss.getD j 0)/\(cn<=cA/\cA<=c3+2) /\
           St w [bh] V [.blk gv 29 (fD l ++ pad),.blk b27 3 (aV ss1),.blk b25 3 (aV (ws.set q wt)),.blk b8 25 [.slice (some ⟨gv,0,none⟩) kk cap,.slice none 0 0],.blk b6 25 [.slice none 0 0,.slice none 0 0],.blk bh 90 (bn lv cA sA)] w':=⟨y,min 40 y,ss.set q y,c4,s4,fun h=>absurd (hiff.out.2 h) (by rw[hb.out];decide),by omega,by omega,⟨by simp[hM.sl],by rw[fC _ _ _ _ _ hlS',if_pos rfl],fun j hj=>by rw[fC _ _ _ _ _ hlS',if_neg zw]⟩,by omega,hS⟩)
       rotate_left;focus
        replace hb:=aj hb;replace hiff:=aj hiff;go_wp2_with (first|(refine ym ?_;clear hS;intro w' hS)|(refine ys ?_;clear hS;intro w' hS)|(refine yc 79 ?_;clear hS;intro b79 w' hS)|((with_reducible refine gMn ?_);refine Gx rfl (Eb rfl rfl rfl) ?_;refine zF ?_)|(go_at_call 39;refine eF hS ⟨1,_,fun _ hg=>xC (hto _ zw zw) zw (St.view hS) hVb hg,?_⟩;clear hS;intro v c4 s4 w' hp k7 k8 hS;(try simp only[sE]at hS);obtain⟨y,rfl,hy0,hy1⟩:=hp)|(go_at_call 91;refine eF hS ⟨1,_,fun _ hg=>tH (b:=b79) (hto _ zw zw) hS.dR ⟨rfl,by decide,by decide⟩ (St.view hS) hVb (zf hS (by decide)) hg,?_⟩;clear hS;intro v c5 s5 w' hp k9 k10 hS;(try simp only[sE]at hS);obtain⟨x,rfl,hx⟩:=hp;have hx':0<=x/\x<=4:=(by simp only[List.mem_cons,List.not_mem_nil,or_false]at hx;omega);clear hx))
        replace hS:St w [bh] V [.blk gv 29 (fD l ++ pad),.blk b27 3 (aV ss),.blk b25 3 ((aV ws).set q (.int .i64 (min 40 (s0+x)))),.blk b8 25 [.slice (some ⟨gv,0,none⟩) kk cap,.slice none 0 0],.blk b6 25 [.slice none 0 0,.slice none 0 0],.blk bh 90 (bn lv c5 s5)] w':=hS.aG;rw[jJ]at hS;have hpk:∃ (s wt:Int) (ss1:List Int) (cA sA:Int),((∃ k,k<kk/\(l.getD k default).from_=(q:Int))->s=ss.getD q 0)/\(0<=s/\s<=240)/\(0<=wt/\wt<=40/\wt-s<=4)/\(ss1.length=kk/\ss1.getD q 0=s/\∀ j,j<q->ss1.getD j 0=ss.getD j 0)/\(cn<=cA/\cA<=c3+2) /\
          St w [bh] V [.blk gv 29 (fD l ++ pad),.blk b27 3 (aV ss1),.blk b25 3 (aV (ws.set q wt)),.blk b8 25 [.slice (some ⟨gv,0,none⟩) kk cap,.slice none 0 0],.blk b6 25 [.slice none 0 0,.slice none 0 0],.blk bh 90 (bn lv cA sA)] w':=⟨s0,min 40 (s0+x),ss,c5,s5,fun _=>hs0.symm,hsb,by omega,⟨hM.sl,hs0,fun _ _=>rfl⟩,by omega,hS⟩
       all_goals (
        clear hS hb;obtain⟨s,wt,ss1,cA,sA,F1,F2,F3,F4,F5,hS⟩:=hpk;have hcs:(aV ss1)[q]? = some (.int .i64 s):=by
         have:=nI (cs:=aV ss1) rfl (i:=q) zw;rw[F4.2.1]at this;exact this
        have hcw:(aV (ws.set q wt))[q]? = some (.int .i64 wt):=Nk hlW';have hl1:(aV ss1).length=kk:=by rw[iD,F4.1]
        have hl2:(aV (ws.set q wt)).length=kk:=Fe hlW;have hcell:=Z4 l pad q (by rw[hM.ll];exact hqi);have hcell0:(fD l ++ pad)[q * 4+0]? = some (.int .i64 (l.getD q default).from_):=hcell;have hlv:(fD l ++ pad).length >= kk * 4:=by rw[List.length_append,fD,jK _ (fun _=>rfl),hM.ll];omega
        obtain⟨hf1,hf2⟩:=hM.fr q hqi;generalize hfq:(l.getD q default).from_=fq at hcell hcell0 hf1 hf2;have hMH:=hM;replace hMH:=aj hMH;replace hfq:=aj hfq;replace hs0:=aj hs0;(refine bF (S:=(St w [bh] V [.blk b27 3 (aV ss1),.blk b25 3 (aV (ws.set q wt))])) (List.replicate 10 false) rfl zk ?_;replace hS:=St.eY hS;(refine yh [.m 0,.m 1,.p 2,.a 3,.m 4,.m 5,.p 6,.a 7,.p 8,.p 9] ?_);refine wpAnyH_done zk ?_ _)
        by_cases hneg:wt-s<0
        ·go_wp2_with (first | (refine ys ?_;clear hS;intro w' hS) | ((with_reducible refine uP ?_);refine zU hS rfl (pK (a:=⟨-1,5,0,0⟩) rfl rfl) ?_;clear hS;intro b111 a' hp;(try simp only [fr] at hp);subst hp;intro w' hS) | (refine yc 113 ?_;clear hS;intro b113 w' hS))
         (refine yj ?_;refine bK ⟨_,by exact dA (r1:=.cell 6 25) (r2:=.tmp 7) zk (by exact rX hS rfl zd) (by exact bD rfl),?_⟩ rfl)
         refine⟨⟨[⟨-1,5,0,0⟩],[]⟩,[0],_,_,_,cA,sA,rfl,KP.1,by simp[Wk.n];omega,by simp,KP.2,by omega,by omega,?_⟩;have h1:St w [bh] V [.blk b113 3 [.int .i64 0],.blk b111 29 (fD [⟨-1,5,0,0⟩]),.blk bh 90 (bn lv cA sA)] _:=hS.aG;have h2:=(Fv (n:=1) (s:=1) h1 rfl (by decide)).perm (List.Perm.swap _ _ _);have h3:=((Fv (n:=1) (s:=4) h2 rfl (by decide)).nilRow 59 4);exact h3.perm (.trans (.cons _ (.swap _ _ _)) (.trans (.swap _ _ _) (.cons _ (.swap _ _ _))))
        ·by_cases hf0:0<=fq;focus
          obtain⟨fn,hfn⟩:∃ fn:Nat,fq=(fn:Int):=⟨fq.toNat,by omega⟩;subst hfn;have hfn':fn<q:=by omega
          have hfk:(fn:Int)<kk:=by omega
          have hbf:=hM.bound zw zw (j:=fn) zw;rw[<- F4.2.2 fn hfn']at hbf;have hcf:(aV ss1)[fn]? = some (.int .i64 (ss1.getD fn 0)):=nI rfl zw;have hFx:∀ z,ss1.getD fn 0+wt=z->∀ j,j<q->(ss1.set fn z).getD j 0=ss.getD j 0+if (l.getD q default).from_=(j:Int) then wt else 0:=fun z hz j hj=>by
           rw[hfq.out,fC _ _ _ _ _ zw];by_cases e:fn=j
           ·subst e;rw[if_pos rfl,if_pos rfl,<- hz,F4.2.2 fn hj]
           ·rw[if_neg e,if_neg zw,F4.2.2 j hj];omega
          replace hFx:=aj hFx;generalize ss1.getD fn 0=sf at hcf hbf hFx;go_wp2_with (refine yy ?_;clear hS;intro w' hS)
          (refine bF (S:=(St w [bh] V [.blk b25 3 (aV (ws.set q wt))])) (List.replicate 13 false) rfl zk ?_;replace hS:=St.eY hS;(refine yh [.m 0,.m 1,.m 2,.m 3,.p 4,.m 6,.m 7,.p 8,.a 9] ?_);(refine AZ 5 zk rfl hS rfl rfl rfl ?_;refine⟨_,zd,?_⟩;clear hS;refine zH ?_;intro w' hS;refine⟨(St.aG hS),?_⟩);(refine yh [.p 10,.p 11] ?_);((refine jl 12 zk rfl hS rfl  rfl rfl ?_;refine⟨_,zd,?_⟩);clear hS;refine zH ?_;intro w' hS;(try simp only[sE]at hS);refine⟨(St.aG hS),?_⟩);refine wpAnyH_done zk ?_ _)
          rw[jJ]at hS;have hpk:∃ (ss2:List Int),(ss2.length=kk/\∀ j,j<q->ss2.getD j 0=ss.getD j 0+if (l.getD q default).from_=(j:Int) then wt else 0) /\
           St w [bh] V [.blk gv 29 (fD l ++ pad),.blk b27 3 (aV ss2),.blk b25 3 (aV (ws.set q wt)),.blk b8 25 [.slice (some ⟨gv,0,none⟩) kk cap,.slice none 0 0],.blk b6 25 [.slice none 0 0,.slice none 0 0],.blk bh 90 (bn lv cA sA)] _:=⟨_,⟨by simp[F4.1],hFx.out _ rfl⟩,hS⟩
          go_wp2_with (fail)
         rotate_left;focus
          go_wp2_with (refine yy ?_;clear hS;intro w' hS)
          have hpk:∃ (ss2:List Int),(ss2.length=kk/\∀ j,j<q->ss2.getD j 0=ss.getD j 0+if (l.getD q default).from_=(j:Int) then wt else 0) /\
           St w [bh] V [.blk gv 29 (fD l ++ pad),.blk b27 3 (aV ss2),.blk b25 3 (aV (ws.set q wt)),.blk b8 25 [.slice (some ⟨gv,0,none⟩) kk cap,.slice none 0 0],.blk b6 25 [.slice none 0 0,.slice none 0 0],.blk bh 90 (bn lv cA sA)] _:=⟨_,⟨F4.1,fun j hj=>by rw[hfq.out,if_neg zw,F4.2.2 j hj];omega⟩,hS⟩
         all_goals (as_aux_lemma=>(
          clear hS;obtain⟨ss2,H1,hS⟩:=hpk;have hql:q<l.length:=by rw[hMH.out.ll];exact hqi
          have hlsp:∀ a b,(splice (fD l ++ pad) (q * 4+2) [a,b]).length=(fD l ++ pad).length:=fun a b=>OU (by simp only[List.length_cons,List.length_nil];omega)
          have hlv2:(fD l).length+pad.length >= kk * 4:=by rw[<- List.length_append];exact hlv
          replace hql:=aj hql;replace H1:=aj H1;(refine bF (S:=(St w [bh] V [.blk b8 25 [.slice (some ⟨gv,0,none⟩) kk cap,.slice none 0 0]])) (List.replicate 18 false) rfl zk ?_;replace hS:=St.eY hS;(refine yh [.p 0,.a 1,.m 2,.m 3,.m 4,.m 9,.m 10] ?_);focus (refine nP 5 11 zk ?_ ?_;rotate_left;(refine Iu 11 rfl hS rfl  rfl ?_;refine⟨_,zq,zd,?_⟩;clear hS;intro b145;refine zH ?_;intro w' hS;refine⟨(St.aG hS),?_⟩);(refine Ec 5 zk rfl hS rfl  rfl ?_;refine⟨_,zq,zd,?_⟩;clear hS;intro b139;refine zH ?_;intro w' hS;refine⟨(St.aG hS),?_⟩);(refine yC (bh:=bh) 6 zk rfl hS rfl  ?_;refine⟨_,_,zo,?_⟩;refine⟨1,_,(fun _ hg=>tH (b:=b139) (hto _ zw zw) hS.dR ⟨rfl,by decide,by decide⟩ (St.view hS) hVb (zf hS (by decide)) hg),?_⟩;clear hS;intro v c140 s140 a' l' hpr hc140 hd140 hp hl;obtain⟨x140,rfl,hx140⟩:=hpr;replace hx140:0<=x140/\x140<=2:=(by simp only[List.mem_cons,List.not_mem_nil,or_false]at hx140;omega);(try simp only[fr]at hp);(try simp only[sB]at hl);subst hp;subst hl;intro w' hS;(try simp only[sE]at hS);refine⟨(St.aG hS),?_⟩);(refine dw 7 rfl zk zk zk (fun _ _ _ _ h=>h) rfl (St.aG hS) ?_;refine⟨_,zp,?_⟩;refine zH ?_);(refine dw 8 rfl zk zk zk (fun _ _ _ _ h=>h) rfl (St.aG hS) ?_;refine⟨_,(fun w=>vW rfl rfl rfl w),?_⟩;refine zH ?_);(refine yC (bh:=bh) 12 zk rfl hS rfl  ?_;refine⟨_,_,zo,?_⟩;refine⟨1,_,(fun _ hg=>tH (b:=b145) (hto _ zw zw) hS.dR ⟨rfl,by decide,by decide⟩ (St.view hS) hVb (zf hS (by decide)) hg),?_⟩;clear hS;intro v c146 s146 a' l' hpr hc146 hd146 hp hl;obtain⟨x146,rfl,hx146⟩:=hpr;replace hx146:0<=x146/\x146<=4:=(by simp only[List.mem_cons,List.not_mem_nil,or_false]at hx146;omega);(try simp only[fr]at hp);(try simp only[sB]at hl);subst hp;subst hl;intro w' hS;(try simp only[sE]at hS);refine⟨(St.aG hS),?_⟩);(refine dw 13 rfl zk zk zk (fun _ _ _ _ h=>h) rfl (St.aG hS) ?_;refine⟨_,zp,?_⟩;refine zH ?_);(refine dw 14 rfl zk zk zk (fun _ _ _ _ h=>h) rfl (St.aG hS) ?_;refine⟨_,zp,?_⟩;refine zH ?_);(refine dw 15 rfl zk zk zk (fun _ _ _ _ h=>h) rfl (St.aG hS) ?_;refine⟨_,zp,?_⟩;refine zH ?_);(refine dw 16 rfl zk zk zk (fun _ _ _ _ h=>h) rfl (St.aG hS) ?_;refine⟨_,zp,?_⟩;refine zH ?_);((refine Qm 17 zk rfl hS rfl  rfl rfl ?_;refine⟨_,zd,?_⟩);clear hS;refine zH ?_;intro w' hS;(try simp only[sE]at hS);refine⟨(St.aG hS),?_⟩);refine wpAnyH_done zk ?_ _;rotate_left;(refine Iu 5 rfl hS rfl  rfl ?_;refine⟨_,zq,zd,?_⟩;clear hS;intro b139;refine zH ?_;intro w' hS;refine⟨(St.aG hS),?_⟩);focus (refine nP 6 11 zk ?_ ?_;rotate_left;(refine Iu 11 rfl hS rfl  rfl ?_;refine⟨_,zq,zd,?_⟩;clear hS;intro b145;refine zH ?_;intro w' hS;refine⟨(St.aG hS),?_⟩);(refine yC (bh:=bh) 6 zk rfl hS rfl  ?_;refine⟨_,_,zo,?_⟩;refine⟨1,_,(fun _ hg=>tH (b:=b139) (hto _ zw zw) hS.dR ⟨rfl,by decide,by decide⟩ (St.view hS) hVb (zf hS (by decide)) hg),?_⟩;clear hS;intro v c140 s140 a' l' hpr hc140 hd140 hp hl;obtain⟨x140,rfl,hx140⟩:=hpr;replace hx140:0<=x140/\x140<=2:=(by simp only[List.mem_cons,List.not_mem_nil,or_false]at hx140;omega);(try simp only[fr]at hp);(try simp only[sB]at hl);subst hp;subst hl;intro w' hS;(try simp only[sE]at hS);refine⟨(St.aG hS),?_⟩);(refine dw 7 rfl zk zk zk (fun _ _ _ _ h=>h) rfl (St.aG hS) ?_;refine⟨_,zp,?_⟩;refine zH ?_);(refine dw 8 rfl zk zk zk (fun _ _ _ _ h=>h) rfl (St.aG hS) ?_;refine⟨_,(fun w=>vW rfl rfl rfl w),?_⟩;refine zH ?_);(refine yC (bh:=bh) 12 zk rfl hS rfl  ?_;refine⟨_,_,zo,?_⟩;refine⟨1,_,(fun _ hg=>tH (b:=b145) (hto _ zw zw) hS.dR ⟨rfl,by decide,by decide⟩ (St.view hS) hVb (zf hS (by decide)) hg),?_⟩;clear hS;intro v c146 s146 a' l' hpr hc146 hd146 hp hl;obtain⟨x146,rfl,hx146⟩:=hpr;replace hx146:0<=x146/\x146<=4:=(by simp only[List.mem_cons,List.not_mem_nil,or_false]at hx146;omega);(try simp only[fr]at hp);(try simp only[sB]at hl);subst hp;subst hl;intro w' hS;(try simp only[sE]at hS);refine⟨(St.aG hS),?_⟩);(refine dw 13 rfl zk zk zk (fun _ _ _ _ h=>h) rfl (St.aG hS) ?_;refine⟨_,zp,?_⟩;refine zH ?_);(refine dw 14 rfl zk zk zk (fun _ _ _ _ h=>h) rfl (St.aG hS) ?_;refine⟨_,zp,?_⟩;refine zH ?_);(refine dw 15 rfl zk zk zk (fun _ _ _ _ h=>h) rfl (St.aG hS) ?_;refine⟨_,zp,?_⟩;refine zH ?_);(refine dw 16 rfl zk zk zk (fun _ _ _ _ h=>h) rfl (St.aG hS) ?_;refine⟨_,zp,?_⟩;refine zH ?_);((refine Qm 17 zk rfl hS rfl  rfl rfl ?_;refine⟨_,zd,?_⟩);clear hS;refine zH ?_;intro w' hS;(try simp only[sE]at hS);refine⟨(St.aG hS),?_⟩);refine wpAnyH_done zk ?_ _;rotate_left;(refine VX (bh:=bh) 6 rfl hS rfl  ?_;refine⟨_,_,zo,?_⟩;refine⟨1,_,(fun _ hg=>tH (b:=b139) (hto _ zw zw) hS.dR ⟨rfl,by decide,by decide⟩ (St.view hS) hVb (zf hS (by decide)) hg),?_⟩;clear hS;intro v c140 s140 a' l' hpr hc140 hd140 hp hl;obtain⟨x140,rfl,hx140⟩:=hpr;replace hx140:0<=x140/\x140<=2:=(by simp only[List.mem_cons,List.not_mem_nil,or_false]at hx140;omega);(try simp only[fr]at hp);(try simp only[sB]at hl);subst hp;subst hl;intro w' hS;(try simp only[sE]at hS);refine⟨(St.aG hS),?_⟩);(refine dw 7 rfl zk zk zk (fun _ _ _ _ h=>h) rfl (St.aG hS) ?_;refine⟨_,zp,?_⟩;refine zH ?_);(refine dw 8 rfl zk zk zk (fun _ _ _ _ h=>h) rfl (St.aG hS) ?_;refine⟨_,(fun w=>vW rfl rfl rfl w),?_⟩;refine zH ?_);(refine Ec 11 zk rfl hS rfl  rfl ?_;refine⟨_,zq,zd,?_⟩;clear hS;intro b145;refine zH ?_;intro w' hS;refine⟨(St.aG hS),?_⟩);(refine yC (bh:=bh) 12 zk rfl hS rfl  ?_;refine⟨_,_,zo,?_⟩;refine⟨1,_,(fun _ hg=>tH (b:=b145) (hto _ zw zw) hS.dR ⟨rfl,by decide,by decide⟩ (St.view hS) hVb (zf hS (by decide)) hg),?_⟩;clear hS;intro v c146 s146 a' l' hpr hc146 hd146 hp hl;obtain⟨x146,rfl,hx146⟩:=hpr;replace hx146:0<=x146/\x146<=4:=(by simp only[List.mem_cons,List.not_mem_nil,or_false]at hx146;omega);(try simp only[fr]at hp);(try simp only[sB]at hl);subst hp;subst hl;intro w' hS;(try simp only[sE]at hS);refine⟨(St.aG hS),?_⟩);(refine dw 13 rfl zk zk zk (fun _ _ _ _ h=>h) rfl (St.aG hS) ?_;refine⟨_,zp,?_⟩;refine zH ?_);(refine dw 14 rfl zk zk zk (fun _ _ _ _ h=>h) rfl (St.aG hS) ?_;refine⟨_,zp,?_⟩;refine zH ?_);(refine dw 15 rfl zk zk zk (fun _ _ _ _ h=>h) rfl (St.aG hS) ?_;refine⟨_,zp,?_⟩;refine zH ?_);(refine dw 16 rfl zk zk zk (fun _ _ _ _ h=>h) rfl (St.aG hS) ?_;refine⟨_,zp,?_⟩;refine zH ?_);((refine Qm 17 zk rfl hS rfl  rfl rfl ?_;refine⟨_,zd,?_⟩);clear hS;refine zH ?_;intro w' hS;(try simp only[sE]at hS);refine⟨(St.aG hS),?_⟩);refine wpAnyH_done zk ?_ _)))
          all_goals (
           go_wp2_with (fail)
           (refine bF (S:=(St w [bh] V [.blk b25 3 (aV (ws.set q wt)),.blk b8 25 [.slice (some ⟨gv,0,none⟩) kk cap,.slice none 0 0]])) (List.replicate 16 false) rfl zk ?_;replace hS:=St.eY hS;(refine yh [.p 0,.a 1,.m 2,.m 3,.m 4,.p 5,.a 6,.m 7,.m 8] ?_);(refine Ec 9 zk rfl hS rfl  rfl ?_;refine⟨_,zq,zd,?_⟩;clear hS;intro b160;refine zH ?_;intro w' hS;refine⟨(St.aG hS),?_⟩);(refine yC (bh:=bh) 10 zk rfl hS rfl  ?_;refine⟨_,_,zo,?_⟩;refine⟨1,_,(fun _ hg=>tH (b:=b160) (hto _ zw zw) hS.dR ⟨rfl,by decide,by decide⟩ (St.view hS) hVb (zf hS (by decide)) hg),?_⟩;clear hS;intro v c161 s161 a' l' hpr hc161 hd161 hp hl;obtain⟨x161,rfl,hx161⟩:=hpr;replace hx161:0<=x161/\x161<=40:=(by simp only[List.mem_cons,List.not_mem_nil,or_false]at hx161;omega);(try simp only[fr]at hp);(try simp only[sB]at hl);subst hp;subst hl;intro w' hS;(try simp only[sE]at hS);refine⟨(St.aG hS),?_⟩);(refine yh [.p 11] ?_);(refine dw 12 rfl zk zk zk (fun _ _ _ _ h=>h) rfl (St.aG hS) ?_;refine⟨_,(fun w=>Eb rfl rfl rfl w),?_⟩;refine zH ?_);(refine yh [.p 13,.p 14] ?_);((refine jl 15 zk rfl hS rfl  rfl rfl ?_;refine⟨_,zd,?_⟩);clear hS;refine zH ?_;intro w' hS;(try simp only[sE]at hS);refine⟨(St.aG hS),?_⟩);refine wpAnyH_done zk ?_ _)
           all_goals (
            rw[XP _ _ _ hql.out]at hS;go_wp2_with (fail)
            go_roundw
            case rel =>
             have hst:=hMH.out.step (s:=s) (wt:=wt) (x:=x140) (y:=x146) (z:=x161) (ss':=ss2) hqi F1 zw zw zw zw zw zw zw zw H1.out.1 H1.out.2;exact⟨(q:Int)-1,q,_,_,ss2,c161,s161,rfl,by omega,by omega,hst,by omega,by omega,hS.aG⟩
            case measure=>simp only[intOf];omega)))))
end Go.Proofs.YtjjmefieegcddaaDoor
