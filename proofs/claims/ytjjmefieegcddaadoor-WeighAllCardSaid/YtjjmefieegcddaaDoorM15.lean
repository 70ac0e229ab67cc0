/- A part of the proof: W113, W114, T29, W89, S32, W90, W115, W116, S38, S39, W101, S40, W117, W118, S29, W86, W87, W88, W91, S34, S36, W103, W120, W119, W121. -/
import Derived.Test.YtjjmefieegcddaaDoorM14
import Derived.Test.YtjjmefieegcddaaDoorM13
import Derived.Test.YtjjmefieegcddaaDoorM09
import Derived.Test.YtjjmefieegcddaaDoorM11
import Derived.Laws.Slices
import Derived.DeepKeys
import Derived.BigGuard
set_option linter.unusedVariables false
set_option linter.unusedSimpArgs false
set_option maxHeartbeats 8000000
set_option maxRecDepth 20000
namespace Go.Proofs.YtjjmefieegcddaaDoor
open Go.RowKit Go.Wg Go.Mm
variable {w:World} {V:View}
theorem afV.of {w w':World} {V V':View} (h:afV w' V V') (hs:w.heap.size<=w'.heap.size):afV w V V':=⟨h.up,fun j o hj=>(h.new j o hj).imp id (Nat.le_trans hs)⟩
theorem ah5 {w0:World} {L:List dF} {l:List Int} {n:Nat} {v:Value} (h:St w0 [] V (.row v 3 1 n (aV l)::L) w) (hn:l.length=n):∃ V',afV w0 V V'/\St w0 [] V' L w/\VI V' v l:=by
 subst hn;exact ag3 h
theorem ah6 {vv rv:Value} {k:Wk} (hk:iJ V vv rv k) (hok:k.Ok) (h4:k.n<=4) (hV:V.In w) :
  Calls Tryd.prog 61 #[.agg #[vv,rv]] w fun e w'=>∃ v1 v2 V',e=.returned (.tuple #[v1,v2])/\afV w V V'/\St w [] V' [] w'/\VLL V' v1 (jv k)/\VLL V' v2 ((jv k).map (ads k)):=by
 have hk0:=hk;obtain⟨va,vcap,hvv,hvc,hvm,hve⟩:=hk0.ves.is;have hone2:=qB (wO hk.ves) (wO hk.rdg);subst hvv;have hr2':([Value.slice va k.n vcap,rv]).length=2:=rfl;have hS:=St.start w V hV;clear hk0 hve;go_enter Tryd.func61,Tryd.ntmps61
 go_wp2_with (first|(refine yy ?_;clear hS;intro w' hS)|(refine yb 1 ?_;clear hS;intro b1 w' hS)|(go_at_call 109;refine(ah2 (k:=k.n) h4 (St.view hS)).mono ?_;rintro _ w1 ⟨vs0,V1,rfl,hV1,hS1,hvs0⟩;have hV1w:=afV.of hV1 hS.size;have hS2:=hS.ahu hS1 hV1;simp only[List.cons_append,List.nil_append]at hS2;clear hS hS1;have hS:=hS2;clear hS2;have hvo0:=hvs0.one))
 have hk1:=jf hk hV1.up;have hO:=ahB 7 k.n;have hOl:(agN 7 k.n).length<=2401:=by
  rw[hO];exact Nat.le_trans (Nat.pow_le_pow_right (by decide) h4) (by decide)
 obtain⟨us,hu1,hu2,hu3⟩:=hvs0.is;obtain⟨oa,ocap,hov,hoc,hom,hoe⟩:=hu2.is;subst hov;have hel:∀ x,x<(agN 7 k.n).length->((agN 7 k.n).getD x []).length=k.n/\∀ i,i<k.n->0<=((agN 7 k.n).getD x []).getD i 0/\((agN 7 k.n).getD x []).getD i 0<=100:=fun x hx=>by
  rw[List.getD_eq_getElem?_getD,List.getElem?_eq_getElem hx,Option.getD_some];obtain⟨h1,h2⟩:=ahn.1 (List.getElem_mem hx);refine⟨h1,fun i hi=>?_⟩;have:=h2 (((agN 7 k.n)[x]).getD i 0) (by rw[List.getD_eq_getElem?_getD,List.getElem?_eq_getElem zw];exact List.getElem_mem _);omega
 have hhit:=fun x hx h=>ahM (k:=k) (x:=x) hx h
 have hmis:=fun x hx h=>ahJ (k:=k) (x:=x) hx h
 have hall:=aht k;have hTl:=fun x=>ahs k x
 have hz:ahf k 0=[]:=rfl;generalize ahf k=T at hhit hmis hall hTl hz;generalize agN 7 k.n=O at hOl hel hhit hmis hall hu1 hu2 hu3 hoc hoe hvs0 |-;clear hvs0 hu2 hO;replace hel:=aj hel;replace hhit:=aj hhit;replace hmis:=aj hmis;replace hall:=aj hall;replace hTl:=aj hTl;replace hu3:=aj hu3;replace hS:=(hS.nilRow 30 1).nilRow 30 1;go_wp2_with (fail)
 go_loopw [4,5,7] (fun ov lv iv wr=>∃ (i:Nat) (us vs:List Value) (V':View),i<=O.length/\iv=.int .i64 (i:Int)/\ov.oneCell'=true/\lv.oneCell'=true/\afM V' us (T i)/\afM V' vs ((T i).map (ads k))/\afV w V1 V'/\St w [] V' [.row ov 30 1 us.length us,.row lv 30 1 vs.length vs,.blk b1 25 [.slice va k.n vcap,rv]] wr) (fun _ _ iv _=>O.length-(intOf iv).toNat)
 case atStart=>exact⟨0,[],[],V1,by omega,rfl,rfl,rfl,by rw[hz];exact afM.nil V1,by rw[hz];exact afM.nil V1,.rfl,hS⟩
 case round =>
  clear hS;obtain⟨i,us1,vs1,V2,hi,rfl,hone,hone1,hN,hM,hV2,hS⟩:=hrel;have h0:(0:Int)<=i:=by omega
  by_cases hlt:i<O.length
  ·have hlt':(i:Int) < O.length:=by omega
   obtain⟨og,oo,hoa,hor⟩:=hoe zw;subst hoa;have hcell:=(hor i hlt 0 _ rfl).mono hV2.up;simp only[Nat.mul_one,Nat.add_zero]at hcell;have hvi:=IU (hu3.out i hlt) hV2.up;obtain⟨hl1,hl2⟩:=hel.out i hlt;have hhi:=hhit.out i hlt;have hmi:=hmis.out i hlt;have hTi:=hTl.out i;have hk2:=jf hk1 hV2.up;generalize us.getD i undef=u at hcell hvi;generalize O.getD i []=l at hvi hl1 hl2 hhi hmi;have huo:=wO hvi;have hul:us1.length+1<=10000:=by rw[hN.len];omega
   have hvl:vs1.length+1<=10000:=by rw[hM.len,List.length_map];omega
   clear hor hoe;replace hN:=aj hN;replace hM:=aj hM;replace hl2:=aj hl2;by_cases ht:Truth k l
   ·have hh:=hhi ht;clear hhi hmi;replace hh:=aj hh;replace ht:=aj ht;go_wp2_with (fail)
    (refine bF (S:=(St w [] V2 [.row u4 30 1 us1.length us1,.row u5 30 1 vs1.length vs1,.blk b1 25 [.slice va k.n vcap,rv]])) (List.replicate 11 false) rfl zk ?_;replace hS:=St.eY hS;(refine yh [.b 0,.m 1,.m 2,.p 3,.c 4] ?_);(refine oZ 5 zk rfl rfl ⟨_,_,zo,?_⟩;refine(aeC hk2 hok hvi hl1 hl2.out (St.view hS)).mono ?_;rintro _ w1 h;obtain⟨_,v26,rfl,hS1⟩:=h.resolve_right (fun h=>h.1 ht.out);have hS2:=hS.Nq hS1;simp only[List.cons_append,List.nil_append]at hS2;clear hS hS1;have hS:=hS2;clear hS2;have hv26:=dY hS v26;refine⟨_,rfl,?_⟩;refine zH ?_;refine⟨(St.aG hS),?_⟩);(refine yh [.m 6,.p 7,.p 8,.p 9,.p 10] ?_);refine wpAnyH_done zk ?_ _)
    have huo1:=one_one huo;have hv26o:=one_one hv26;go_wp2_with (first|(refine yy ?_;clear hS;intro w' hS)|(refine yg ?_;clear hS;intro _ w' hS)|((with_reducible refine Q5 ?_);refine Ui rfl rfl ?_;refine⟨_,_,_,_,by exact rfl,by exact rfl,?_⟩;(first|(refine ahE hS ⟨rfl,one_one huo,zw⟩ ?_;clear hS;intro ya w' hS;refine zF ?_;(try simp only[sE]at hS);have hya:=dY hS ya)|(refine ahE hS ⟨rfl,one_one hv26,zw⟩ ?_;clear hS;intro yb w' hS;refine zF ?_;(try simp only[sE]at hS);have hyb:=dY hS yb))))
    obtain⟨V4,hV4,hS4,hvi4⟩:=ah5 (St.drop (St.drop hS)) (adA k l);clear hS;go_roundw
    case rel=>exact⟨i+1,us1 ++ [u],vs1 ++ [v26],V4,by omega,by go_num,hya,hyb,by rw[hh.out];exact(hN.out.mono hV4.up).add (IU hvi hV4.up),by rw[hh.out,List.map_append];exact(hM.out.mono hV4.up).add hvi4,hV2.trans hV4,by rw[List.length_append,List.length_append];exact hS4.aG⟩
    case measure=>simp only[intOf];omega
   ·have hm:=hmi ht;clear hhi hmi;replace hm:=aj hm;replace ht:=aj ht;go_wp2_with (fail)
    (refine bF (S:=(St w [] V2 [.row u4 30 1 us1.length us1,.row u5 30 1 vs1.length vs1,.blk b1 25 [.slice va k.n vcap,rv]])) (List.replicate 11 false) rfl zk ?_;replace hS:=St.eY hS;(refine yh [.b 0,.m 1,.m 2,.p 3,.c 4] ?_);(refine oZ 5 zk rfl rfl ⟨_,_,zo,?_⟩;refine(aeC hk2 hok hvi hl1 hl2.out (St.view hS)).mono ?_;rintro _ w1 h;obtain⟨_,rfl,hkp⟩:=h.resolve_left (fun h=>ht.out h.1);replace hS:=hS.kp hkp;clear hkp;refine⟨_,rfl,?_⟩;refine zH ?_;refine⟨(St.aG hS),?_⟩);(refine yh [.m 6,.p 7,.p 8,.p 9,.p 10] ?_);refine wpAnyH_done zk ?_ _)
    go_wp2_with (fail)
    go_roundw
    case rel=>exact⟨i+1,us1,vs1,V2,by omega,by go_num,hone,hone1,by rw[hm.out];exact hN.out,by rw[hm.out];exact hM.out,hV2,hS⟩
    case measure=>simp only[intOf];omega
  ·obtain rfl:i=O.length:=by omega
   replace hN:=aj hN;replace hM:=aj hM;go_wp2_with (fail)
   (refine yj ?_;refine bK ⟨_,by exact dA (r1:=.tmp 2) (r2:=.tmp 3) zk (by exact bD rfl) (by exact bD rfl),?_⟩ rfl)
   obtain⟨V5,hV5,hS5,hv5⟩:=af9 hS;obtain⟨V6,hV6,hS6,hv6⟩:=af9 hS5;rw[hall.out]at hN hM;exact⟨_,_,V6,rfl,(hV1w.trans hV2).trans (hV5.trans hV6),hS6.aG,(hN.out.mono fun j o h=>hV6.up j o (hV5.up j o h)).vll (pW.mono hv5 hV6.up),(hM.out.mono fun j o h=>hV6.up j o (hV5.up j o h)).vll hv6⟩
theorem aib (l:List nN) (pad:List Value) (q:Nat) (hq:q<l.length) (room:Int):(fD l ++ pad).set (q * 4+1) (.int .i64 room)=fD (l.set q ⟨(l.getD q default).from_,room,(l.getD q default).lo,(l.getD q default).hi⟩) ++ pad:=by
 induction l generalizing q with
 |nil=>simp at hq
 | cons x l ih =>
  cases q with
  |zero=>rfl
  |succ q =>
   have h:=ih q (by simpa using hq);have e:fD (x::l)=.int .i64 x.from_::.int .i64 x.room::.int .i64 x.lo::.int .i64 x.hi::fD l:=rfl;rw[e];rw[show(q+1) * 4+1=(q * 4+1)+1+1+1+1 by omega];simp only[List.cons_append,List.set_cons_succ,List.getD_cons_succ];rw[h];rfl
theorem aij (l:List nN) (pad:List Value) (q:Nat) (hq:q<l.length):(fD l ++ pad)[q * 4+1]? = some (.int .i64 (l.getD q default).room):=by
 have h1:=Ei nN.cells (fun _=>rfl) l q (l.getD q default) (by simp[List.getD_eq_getElem?_getD,List.getElem?_eq_getElem hq]) 1 (by decide);have hl:(fD l).length=l.length * 4:=by rw[fD,jK _ (fun _=>rfl)]
 rw[List.getElem?_append_left zw];exact h1
theorem aie {bh:Nat} {lv:Value} {cn st:Int} (hh:xB V bh lv cn) (hc9:cn<=900000) (hV:V.In w) (hVb:V bh=none) (hg:w.heap[bh]? = some (.cells (bn lv cn st).toArray 90 (0,0))) :
  Calls Tryd.prog 60 #[.pointer (some ⟨bh,0,none⟩)] w fun e w'=>∃ (k:Wk) (vv rv:Value) (cn' st':Int),e=.returned (.agg #[vv,rv])/\k.Ok/\k.n<=4/\k.rdg.length<=4/\(∀ i,i<k.n->(k.v i).room<=6)/\cn<=cn'/\cn'<=cn+120 /\
   St w [bh] V [.row vv 29 4 k.n (fD k.ves),.row rv 59 4 k.rdg.length (fH k.rdg),.blk bh 90 (bn lv cn' st')] w':=by
 have hS:=St.xW w V hV hg hVb;clear hg;go_enter Tryd.func60,Tryd.ntmps60
 go_wp2_with (refine ya 2 ?_;clear hS;intro b2 w' hS)
 refine(afr hh hc9 (by decide) (by decide) (St.view hS) hVb (St.dR hS)).mono ?_;rintro _ w1 ⟨k,vv,rv,c1,s1,rfl,hok,hkn,hrl,k1,k2,hS1⟩;replace hS:St w [bh] V [.row vv 29 4 k.n (fD k.ves),.row rv 59 4 k.rdg.length (fH k.rdg),.blk b2 25 [.slice none 0 0,.slice none 0 0],.blk bh 90 (bn lv c1 s1)] w1:=hS.comp (j:=1) rfl (hS1.perm (List.perm_append_comm (l₁:=[_,_]) (l₂:=[_])));clear hS1;(try clear w')
 obtain⟨g,cap,pad,hvv,q1,q2,q3,q4,q5,hS2⟩:=QC hS hok.pos;clear hS;have hS:=hS2;clear hS2;subst hvv;have hrvo:=dY hS rv;have hone2:∀ u∈[Value.slice (some ⟨g,0,none⟩) k.n cap,rv],u.oneCell'=true:=qB rfl hrvo;have hpos:=hok.pos;have hn4:k.n<=4:=by omega
 have hvk:∀ j,j<k.n->(k.ves.getD j default).Ok j:=fun j hj=>hok.ves j hj
 replace hvk:=aj hvk;go_wp2_with (first|(refine ys ?_;clear hS;intro w' hS)|(refine ya 3 ?_;clear hS;intro b3 w' hS))
 go_loopw [4] (fun iv wr=>∃ (i:Nat) (l:List nN),iv=.int .i64 (i:Int)/\i<=k.n/\l.length=k.n/\(∀ j,j<k.n->(l.getD j default).Ok j/\(j<i->(l.getD j default).room<=6))/\St w [bh] V [.blk b3 25 [.slice (some ⟨g,0,none⟩) k.n cap,rv],.blk g 29 (fD l ++ pad),.row rv 59 4 k.rdg.length (fH k.rdg),.blk b2 25 [.slice none 0 0,.slice none 0 0],.blk bh 90 (bn lv c1 s1)] wr) (fun iv _=>k.n-(intOf iv).toNat)
 case atStart=>exact⟨0,k.ves,rfl,by omega,rfl,fun j hj=>⟨hvk.out j hj,fun h=>absurd h zw⟩,hS⟩
 case round =>
  clear hS;obtain⟨i,l,rfl,hi,hl,hall,hS⟩:=hrel;by_cases hlt:i<k.n
  ·have hlt':(i:Int) < k.n:=by omega
   have h0i:(0:Int)<=i:=by omega
   have hcell:=aij l pad i zw;have hlr:(fD l).length+pad.length >= k.n * 4:=by rw[fD,jK _ (fun _=>rfl),hl];omega
   have hup:=aib l pad i zw;obtain⟨o1,o2,o3,o4,o5,o6,o7,o8,o9⟩:=(hall i hlt).1;have hnx:∀ ro,0<=ro->ro<=6->∀ j,j<k.n->((l.set i ⟨(l.getD i default).from_,ro,(l.getD i default).lo,(l.getD i default).hi⟩).getD j default).Ok j/\(j<i+1->((l.set i ⟨(l.getD i default).from_,ro,(l.getD i default).lo,(l.getD i default).hi⟩).getD j default).room<=6):=fun ro h1 h2 j hj=>by
    rw[fC _ _ _ _ _ zw];by_cases e:i=j
    ·subst e;rw[if_pos rfl];exact⟨⟨o1,o2,h1,Int.le_trans h2 (by decide),o5,o6,o7,o8,o9⟩,fun _=>h2⟩
    ·rw[if_neg e];exact⟨(hall j hj).1,fun h=>(hall j hj).2 zw⟩
   generalize (l.getD i default).room=ro at hcell o3 o4;clear o1 o2 o5 o6 o7 o8 o9;replace hnx:=aj hnx;replace hup:=aj hup;clear hall;go_wp2_with (refine yy ?_;clear hS;intro w' hS)
   (refine bF (S:=(St w [bh] V [.blk b3 25 [.slice (some ⟨g,0,none⟩) k.n cap,rv]])) (List.replicate 13 false) rfl zk ?_;replace hS:=St.eY hS;(refine yh [.p 0,.a 1,.m 2,.p 3,.a 4,.m 5,.p 6,.p 7] ?_);(refine AZ 8 zk rfl hS rfl rfl rfl ?_;refine⟨_,zd,?_⟩;clear hS;refine zH ?_;intro w' hS;refine⟨(St.aG hS),?_⟩);(refine dw 9 rfl zk zk zk (fun _ _ _ _ h=>h) rfl (St.aG hS) ?_;refine⟨_,(fun w=>Eb rfl rfl rfl w),?_⟩;refine zH ?_);(refine yh [.p 10,.p 11] ?_);((refine jl 12 zk rfl hS rfl  rfl rfl ?_;refine⟨_,zd,?_⟩);clear hS;refine zH ?_;intro w' hS;(try simp only[sE]at hS);refine⟨(St.aG hS),?_⟩);refine wpAnyH_done zk ?_ _)
   all_goals (
    rw[hup.out]at hS;go_wp2_with (fail)
    go_roundw
    case rel=>exact⟨i+1,_,by go_num,by omega,by rw[List.length_set];exact hl,hnx.out (min 6 ro) zw zw,hS.aG⟩
    case measure=>simp only[intOf];omega)
  ·obtain rfl:i=k.n:=by omega
   have hK:(⟨l,k.rdg⟩:Wk).Ok:=⟨by show 0<l.length;omega,by show l.length<=6;omega,fun j hj=>(hall j (by have hj':j<l.length:=hj;omega)).1,hok.rdl,fun j hj=>by
    have h1:=hok.rdg j hj;have h2:(⟨l,k.rdg⟩:Wk).n=k.n:=hl;rw[h2];exact h1⟩
   have hrm:∀ j,j<(⟨l,k.rdg⟩:Wk).n->((⟨l,k.rdg⟩:Wk).v j).room<=6:=fun j hj=>(hall j (by have hj':j<l.length:=hj;omega)).2 (by have hj':j<l.length:=hj;omega)
   clear hall;replace hrm:=aj hrm;go_wp2_with (first|(refine ym ?_;clear hS;intro w' hS)|(refine ys ?_;clear hS;intro w' hS))
   (refine yj ?_;refine bK ⟨_,by exact bH (r1:=.cell 2 25) zk (by exact rX hS rfl zd),?_⟩ rfl)
   have h1:St w [bh] V [.blk g 29 (fD l ++ pad),.row rv 59 4 k.rdg.length (fH k.rdg),.blk bh 90 (bn lv c1 s1)] _:=hS.aG;have el:(fD l).length=k.n * 4:=by rw[fD,jK _ (fun _=>rfl),hl]
   have hpl:(fD l ++ pad).length=cap * 4:=by rw[List.length_append,el];rw[List.length_append,fD,jK _ (fun _=>rfl)]at q4;exact q4
   have h2:=XT (n:=k.n) (s:=4) (cap:=cap) h1 q1 q2 el hpl q5;refine⟨⟨l,k.rdg⟩,_,rv,c1,s1,rfl,hK,by show l.length<=4;omega,hrl,hrm.out,by omega,by omega,?_⟩;show St w [bh] V [.row _ 29 4 l.length (fD l),.row rv 59 4 k.rdg.length (fH k.rdg),.blk bh 90 (bn lv c1 s1)] _;rw[hl];exact h2
end Go.Proofs.YtjjmefieegcddaaDoor
namespace Go.Tm
open Go
open Go.Conc
variable {P:Program}
section
variable {tgt k:List Item} {S:Act->World->Prop} {a:Act} {w:World}
theorem abn {todo todo':List Item} {a':Act} {w':World} (hs:∀ (b:Frame) (cs:List Frame),b.kind=.normal->Steps P (lone (b.at a todo) cs w) (lone (b.at a' todo') cs w')) (h:fA P tgt S todo' a' w'):fA P tgt S todo a w:=fun b cs hb=>by
 obtain⟨a2,w2,h1,h2⟩:=h b cs hb;exact⟨a2,w2,h1,(hs b cs hb).trans h2⟩
theorem abT {ops:Array Oper} {l2:List Nat}:∀ (l1:List Nat) (a:Act) (w:World),wpOps P ops (fun e a' w'=>e=.normal/\fA P tgt S (.inRegion ops l2::k) a' w') l1 a w->fA P tgt S (.inRegion ops (l1 ++ l2)::k) a w
 | [],a,w,h=>h.2
 | i::rest,a,w,h=>by
  have ih:=abT (ops:=ops) (l2:=l2) rest;simp only[wpOps]at h;rw[List.cons_append];cases ho:ops[i]? with
  |none =>
   simp only[ho]at h;refine abn (fun b cs _=>?_) (ih a w h);have hs:=step_op_skip (P:=P) (b:=b) (a:=a) (k:=k) (cs:=cs) (w:=w) (ops:=ops) (i:=i) (rest:=rest ++ l2) (by simp[ho]);simp only[ho,Option.bind_none,Act.put]at hs;exact .one hs
  | some o =>
   simp only[ho]at h;by_cases hw:Region.wanted o (yielded ops a.tmps)=true
   ·simp only [hw,if_true] at h;rcases h with h | ⟨hasks,a₀,w₀,hq⟩
    case inr=>exact nomatch hq.1
    simp only[Oper.wp,Oper.upon]at h;split at h
    ·rename_i v w' hr;exact cO ho hw hr (ih _ _ h)
    ·rename_i w' hr;exact Q8 ho hw hr (ih _ _ h)
    ·rename_i d w' hr;refine abn (fun b cs _=>.one (step_lone_go ?_)) (ih _ _ h);have hg:=stepG_op (P:=P) (b:=b) (k:=k) (cs:=cs) (w:=w) (rest:=rest ++ l2) ho hw;have:({ b.at a (.inRegion ops (i::(rest ++ l2))::k) with defers:=d::a.defers }:Frame).finish undef =
       b.at ({a with defers:=d::a.defers}.put o.dst undef) (.inRegion ops (rest ++ l2)::k):=by
      have:=Frame.finish_at b {a with defers:=d::a.defers} ops i (rest ++ l2) k undef;rw[ho]at this;exact this
     rw[hg];simp only[stepG.apply,Sem.runT_eq,hr,GStep.bare_after];exact congrArg (fun fr=>GStep.go {frame:=fr,callers:=cs,status:=.running,dying:=none} w') this
    ·rename_i f args w' hr;refine rZ ho hw hr (h.mono fun e w'' hR=>?_);cases e with
     |returned v=>exact⟨v,rfl,ih _ _ hR⟩
     |panicked chain=>exact nomatch hR.1
     |outgrown =>
      obtain⟨a₀,w₀,hq⟩:=hR;exact nomatch hq.1
    ·rename_i row args w' hr;intro b cs hb;have hg:=stepG_op (P:=P) (b:=b) (k:=k) (cs:=cs) (w:=w) (rest:=rest ++ l2) ho hw;have hfin:∀ v,(b.at a (.inRegion ops (i::(rest ++ l2))::k)).finish v=b.at (a.put o.dst v) (.inRegion ops (rest ++ l2)::k):=by
      intro v;rw[Frame.finish_at,ho];rfl
     obtain⟨v,w'',hR,hsteps⟩:=h (b.at a (.inRegion ops (i::(rest ++ l2))::k)) cs;have henter:step P (lone (b.at a (.inRegion ops (i::(rest ++ l2))::k)) cs w) =
       .next (lone (Frame.ofRow P row args .normal) (b.at a (.inRegion ops (i::(rest ++ l2))::k)::cs) w') :=
      step_lone_go (by rw[hg];simp[stepG.apply,hr,Frame.at])
     obtain⟨a',w₃,hq,harr⟩:=ih _ _ hR b cs hb;refine⟨a',w₃,hq,.head henter (Steps.trans ?_ harr)⟩;rw[<- hfin];exact hsteps
    ·exact nomatch h.1
    ·exact h.elim
   ·simp only [hw,if_false,Bool.false_eq_true] at h;refine abn (fun b cs _=>?_) (ih _ _ h);have hs:=step_op_skip (P:=P) (b:=b) (a:=a) (k:=k) (cs:=cs) (w:=w) (ops:=ops) (i:=i) (rest:=rest ++ l2)
     (by simp[ho];simpa using hw)
    simp only[ho,Option.bind_some]at hs;exact .one hs
theorem abE {ops:Array Oper} {Q:Exit->Act->World->Prop} (l:List Oper) (m:Nat) (h:∀ j,j<l.length->l[j]? = ops[m+j]?):wpOps P ops Q (List.range' m l.length)=wpList P ops Q l:=by
 induction l generalizing m with
 |nil=>funext a w;simp[wpOps,wpList]
 |cons o l ih =>
  have h0:ops[m]? = some o:=by simpa using(h 0 (by simp)).symm
  have ih':=ih (m+1) (fun j hj=>by have:=h (j+1) (by simpa using hj);simpa[Nat.add_assoc,Nat.add_comm 1 j]using this);funext a w;simp only[List.length_cons,List.range'_succ,wpOps,h0,wpList,ih']
end
end Go.Tm
namespace Go.Proofs.YtjjmefieegcddaaDoor
open Go.RowKit Go.Wg Go.Mm Go.Wk
open Go Go.Sr Go.Ph Go.Tm Go.Conc
variable {args:Array Value} {fn:Func}
variable {w:World} {V:View} {f0:FuncId} {R:Ending->World->Prop} {todo k0:List Item} {a:Act}
structure RB (f0:FuncId) (R:Ending->World->Prop) (todo:List Item) (a:Act) (w:World):Prop where
 df:a.defers=[]
 run:∀ (b:Frame) (cs:List Frame),b.fn=f0->b.kind=.normal->∀ τ d,ay OC (w.re τ d) ->
  kU Tryd.prog (G (b.at a todo) cs) (w.re τ d) fun a' w'=>∃ e fr,a'=G fr cs/\R e w'/\fr.fn=f0/\fr.leaving Tryd.prog w' e/\e≠.outgrown/\ay OC w'
theorem RB.re (h:RB f0 R todo a w) (τ:Nat->Question->Nat) (d:Nat):RB f0 R todo a (w.re τ d):=⟨h.df,fun b cs h1 h2 τ' d' hh=>h.run b cs h1 h2 τ' d' hh⟩
theorem ado (tgt:List Item) (hit:todo.all qy=true) (hd:a.defers=[]) (h:∀ τ d,fA Tryd.prog tgt (RB f0 R tgt) todo a (w.re τ d)):RB f0 R todo a w :=
 ⟨hd,fun b cs hbf hbk τ d hh=>vI hbf hbk hit (fun x hx=>by rw[hd]at hx;cases hx) hh (S:=RB f0 R tgt) (fun a w τ d h=>h.re τ d) (fun τ' d'=>h τ' d') fun a' w' hS hh'=>hS.run b cs hbf hbk w'.tape w'.drawn hh'⟩
theorem ac7 {N:FuncId} {R':Ending->World->Prop} {ops:Array Oper} {l:List Nat} {i:Nat} {o:Oper} (hd:a.defers=[]) (ho:ops[i]? = some o) (hw:Region.wanted o (yielded ops a.tmps)=true) (hok':qj true o.op=true)
 (hr:∀ w,(execOp a.eval o).run Tryd.prog w=.ok (.enter N args) w) (hpan:∀ ch w,¬ R' (.panicked ch) w) (hc:∀ τ d,ay OC (w.re τ d)->kL Tryd.prog N args (w.re τ d) R')
 (hk:∀ v w',R' (.returned v) w'->RB f0 R (.inRegion ops l::k0) (a.put o.dst v) w'):RB f0 R (.inRegion ops (i::l)::k0) a w :=
 ⟨hd,fun b cs hbf hbk τ d hh=>Oh (hc τ d hh) hh hbk ho hw hok' hr hpan fun v w' hv hh'=>(hk v w' hv).run b cs hbf hbk w'.tape w'.drawn hh'⟩
theorem abY {f0:FuncId} {R:Ending->World->Prop} {B:Code} {m:Nat} (hf:Tryd.prog.funcs[f0]? = some fn) (hb:fn.body=some B) (hm:fn.ntmps-args.size=m) (hh:ay OC w)
 (h:RB f0 R [.code B] {tmps:=args ++ Array.replicate m undef,defers:=[]} w):kL Tryd.prog f0 args w R :=
 jD hf hb fun cs b hbf hbk _=>by
  rw[hm];exact h.run b cs hbf hbk w.tape w.drawn hh
theorem adh {v:Value} (hf:Tryd.prog.funcs[f0]? = some fn) (hd:a.defers=[]) (hr:∀ w,(results fn a.tmps).run Tryd.prog w=.ok v w) (hR:∀ τ d,R (.returned v) (w.re τ d)) (hins:Ins R):RB f0 R (.code .ret::k0) a w :=
 ⟨hd,fun b cs hbf hbk τ d hh=>Vo hbf hbk hd hf hh (hr _) (hR τ d) hins⟩
end Go.Proofs.YtjjmefieegcddaaDoor
namespace Go.Proofs.YtjjmefieegcddaaDoor
open Go.RowKit Go.Wg Go.Mm Go.Wk
open Go Go.Sr Go.Ph Go.Tm Go.Conc
variable {k:Wk} {fn:Func} {y:Array Operand} {ats:Array TypeId} {ops:Array Oper} {l:List Nat} {i:Nat} {o:Oper} {rv vv:Value} {e x1 x2:Int} {tgt:List Item} {S:Act->World->Prop}
variable {w:World} {V:View} {w0:World} {L:List dF} {X:List Nat} {f0:FuncId} {R:Ending->World->Prop} {k0:List Item} {a:Act}
theorem aeA (hok:k.Ok) {w:Nat->Nat} (h:Hu k (aN k aC) w):vX k=(dW k (aN k aC) false,0):=by
 unfold vX;rw[if_pos (G7 hok [] (fun n hn=>nomatch hn)),if_pos (Qu hok h)]
theorem aea (hok:k.Ok) {w:Nat->Nat} (h:Hu k (aN k aC) w):adw k=(dW k (aN k aC) true,0):=by
 unfold adw;rw[if_pos (G7 hok [] (fun n hn=>nomatch hn)),if_pos (Qu hok h)]
theorem adi (hok:k.Ok):abV k=(can k (aN k aC),0):=by
 unfold abV;rw[if_pos (G7 hok [] (fun n hn=>nomatch hn))]
theorem ac3 {N:FuncId} {args:Array Value} {v:Value} (d:Nat) (hS:St w0 X V L w) (hf:Tryd.prog.funcs[N]? = some fn) (hb:(fn.name == "runtime.NumGoroutine")=false) (hb2:fn.body.isNone=false) (hc:∀ τ d,ay OC (w.re τ d)->kL Tryd.prog N args (w.re τ d) fun e w'=>e=.returned v/\Kp (w.re τ d) w')
 (hd:a.defers=[]) (ho:ops[i]? = some o) (hdst:o.dst=some d) (hw:Region.wanted o (yielded ops a.tmps)=true) (hop:o.op=.call {callee:=.value (.func N),args:=y,argTypes:=ats}) (hy:y.toList.map a.eval=args.toList)
 (h:∀ w' a',St w0 X V L w'->a.put (some d) v=a'->RB f0 R (.inRegion ops l::k0) a' w'):RB f0 R (.inRegion ops (i::l)::k0) a w:=by
 refine ac7 (N:=N) (args:=args) (R':=fun e w'=>e=.returned v/\Kp w w') hd ho hw (by rw[hop];rfl) (fun w1=>?_) (fun ch w1 h=>nomatch h.1) (fun τ d hh=>(hc τ d hh).mono fun e w1 h=>⟨h.1,uq h.2⟩) ?_
 ·rw[run_call_body hop hf hb hb2,show y.map a.eval=args from Array.ext' (by rw[Array.toList_map,hy])]
 rintro v' w1 ⟨hv,hk⟩;cases hv;rw[hdst];exact h _ _ (hS.kp hk) rfl
theorem acB (d:Nat) (hS:St w0 X V L w) (hB:Bs V) (hk:iJ V vv rv k) (hv:vX k=((x1,x2),e))
 (hd:a.defers=[]) (ho:ops[i]? = some o) (hdst:o.dst=some d) (hw:Region.wanted o (yielded ops a.tmps)=true) (hop:o.op=.call {callee:=.value (.func 40),args:=y,argTypes:=ats}) (hy:y.toList.map a.eval=[.agg #[vv,rv]])
 (h:∀ w' a',St w0 X V L w'->a.put (some d) (.tuple #[.agg #[.int .i64 x1,.int .i64 x2],.int .i64 e])=a'->RB f0 R (.inRegion ops l::k0) a' w'):RB f0 R (.inRegion ops (i::l)::k0) a w:=by
 refine ac3 d hS Tryd.func40 zk zk (fun τ d hh=>?_) hd ho hdst hw hop hy h;have hL:=ZB vv rv k hk hB.gv (hS.re1 τ d).view hh;rw[hv]at hL;exact hL
theorem aes (d:Nat) (hS:St w0 X V L w) (hB:Bs V) (hk:iJ V vv rv k) (hv:adw k=((x1,x2),e))
 (hd:a.defers=[]) (ho:ops[i]? = some o) (hdst:o.dst=some d) (hw:Region.wanted o (yielded ops a.tmps)=true) (hop:o.op=.call {callee:=.value (.func 45),args:=y,argTypes:=ats}) (hy:y.toList.map a.eval=[.agg #[vv,rv]])
 (h:∀ w' a',St w0 X V L w'->a.put (some d) (.tuple #[.agg #[.int .i64 x1,.int .i64 x2],.int .i64 e])=a'->RB f0 R (.inRegion ops l::k0) a' w'):RB f0 R (.inRegion ops (i::l)::k0) a w:=by
 refine ac3 d hS Tryd.func45 zk zk (fun τ d hh=>?_) hd ho hdst hw hop hy h;have hL:=aez vv rv k hk hB.gv (hS.re1 τ d).view hh;rw[hv]at hL;exact hL
theorem acy {y:Array Operand} {ats:Array TypeId} {l:List Nat} (d:Nat) (hS:St w0 X V L w) (hB:Bs V)
 (hd:a.defers=[]) (ho:ops[i]? = some o) (hdst:o.dst=some d) (hw:Region.wanted o (yielded ops a.tmps)=true) (hop:o.op=.call {callee:=.value (.func 21),args:=y,argTypes:=ats}) (hy:y.toList.map a.eval=[])
 (h:∀ w' a',St w0 X V L w'->a.put (some d) (.bool true)=a'->RB f0 R (.inRegion ops l::k0) a' w'):RB f0 R (.inRegion ops (i::l)::k0) a w :=
 ac3 d hS Tryd.func21 zk zk (fun τ d hh=>TB hB (hS.re1 τ d).view hh) hd ho hdst hw hop hy h
theorem ac2 (hf:Tryd.prog.funcs[f0]? = some fn) (hS:St w0 [] V L w) (hd:a.defers=[]) (hr:∀ w,(results fn a.tmps).run Tryd.prog w=.ok (.bool true) w):RB f0 (fun r w'=>r=.returned (.bool true)/\Kp w0 w') (.code .ret::k0) a w :=
 adh hf hd hr (fun τ d=>⟨rfl,adC hS.bM τ d⟩) xM
theorem abr {todo:List Item} (hit:todo.all qy=true) (hd:a.defers=[]) (hS:St w0 X V L w) (h:∀ w',St w0 X V L w'->fA Tryd.prog tgt (RB f0 R tgt) todo a w'):RB f0 R todo a w :=
 ado tgt hit hd fun τ d=>h _ (hS.re1 τ d)
theorem abP {k:List Item} (n:Nat) {l:List Oper} (hn:n<=l.length) (hw:wpList Tryd.prog l.toArray (fun e a' w'=>e=.normal/\fA Tryd.prog tgt S (.inRegion l.toArray (List.range' n (l.length-n))::k) a' w') (l.take n) a w) :
  fA Tryd.prog tgt S (.inRegion l.toArray (List.range l.toArray.size)::k) a w:=by
 have e:List.range l.toArray.size=List.range' 0 (l.take n).length ++ List.range' n (l.length-n):=by
  rw[List.range_eq_range',List.length_take,Nat.min_eq_left hn];have:=List.range'_append (s:=0) (m:=n) (n:=l.length-n) (step:=1);rw[Nat.zero_add,Nat.one_mul]at this;rw[this];congr 1;show l.length=_;omega
 rw[e];refine abT _ a w ?_;rw[abE (l.take n) 0 fun j hj=>?_]
 ·exact hw
 ·rw[List.length_take]at hj;rw[Nat.zero_add,List.getElem?_take,if_pos zw];simp
theorem abe {k:List Item} (n:Nat) {l:List Oper} {m:List Nat} (hm:m=List.range' n (l.length-n)) (hw:wpList Tryd.prog l.toArray (fun e a' w'=>e=.normal/\fA Tryd.prog tgt S (.inRegion l.toArray []::k) a' w') (l.drop n) a w):fA Tryd.prog tgt S (.inRegion l.toArray m::k) a w:=by
 subst hm;have e:List.range' n (l.length-n)=List.range' n (l.drop n).length ++ []:=by rw[List.length_drop,List.append_nil]
 rw[e];refine abT _ a w ?_;rw[abE (l.drop n) n fun j hj=>?_]
 ·exact hw
 ·rw[List.getElem?_drop];simp
end Go.Proofs.YtjjmefieegcddaaDoor
namespace Go.Wg
open Go Go.Mm Go.Proofs.YtjjmefieegcddaaDoor
end Go.Wg
namespace Go.Proofs.YtjjmefieegcddaaDoor
open Go.RowKit Go.Wg Go.Mm Go.Wk
open Go Go.Sr Go.Ph Go.Tm Go.Conc
variable {w w0:World} {V:View}
theorem ahU {X:List Nat} {L:List dF} {f:FuncId} {args:Array Value} {R:Ending->World->Prop} {l1 l2:List (List Int)} (hS:St w0 X V L w) (hc:Calls Tryd.prog f args w fun e w'=>∃ v1 v2 V',e=.returned (.tuple #[v1,v2])/\afV w V V'/\St w [] V' [] w'/\VLL V' v1 l1/\VLL V' v2 l2)
  (h:∀ (V':View) (v1 v2:Value) (w':World),(∀ j o,V j=some o->V' j=some o)->VLL V' v1 l1->VLL V' v2 l2->v1.oneCell'=true->v2.oneCell'=true->St w0 X V' L w'->R (.returned (.tuple #[v1,v2])) w'):Calls Tryd.prog f args w R :=
 hc.mono fun e w' ⟨v1,v2,V',he,hV,hS',h1,h2⟩=>by
  subst he;exact h V' v1 v2 w' hV.up h1 h2 h1.one h2.one (hS.ahu hS' hV)
end Go.Proofs.YtjjmefieegcddaaDoor
namespace Go.Wg
open Go Go.Mm Go.Proofs.YtjjmefieegcddaaDoor
end Go.Wg
namespace Go.Proofs.YtjjmefieegcddaaDoor
open Go.RowKit Go.Wg Go.Mm Go.Wk
open Go Go.Sr Go.Ph Go.Tm Go.Conc
variable {w w0:World} {V:View}
theorem VLL.len0 {v:Value} (h:VLL V v []):∃ a cap,v=.slice a 0 cap:=by
 obtain⟨us,h1,h2,h3⟩:=h.is;obtain⟨a,cap,h4,_⟩:=h2.is;exact⟨a,cap,h4⟩
end Go.Proofs.YtjjmefieegcddaaDoor
namespace Go.Wg
open Go Go.Mm Go.Proofs.YtjjmefieegcddaaDoor
variable {k:Wk} {i u v:Nat} {w:Nat->Nat}
def aiw (a b:Int × Int):Int × Int:=(max a.1 b.1,min a.2 b.2)
def aiM (k:Wk) (i:Nat):Int × Int:=(k.rdg.filter fun r=>r.vessel == (i:Int)).foldl (fun s r=>aiw s (r.shown-r.err,r.shown+r.err)) (0,(k.v i).room)
def Pe (f:Nat->Int × Int) (l:List Nat):Int × Int:=((l.map fun x=>(f x).1).sum,(l.map fun x=>(f x).2).sum)
theorem aiA {p q:Nat->Int × Int} {l:List Nat} (h:∀ x∈l,p x=q x):Pe p l=Pe q l:=by
 have e1:l.map (fun x=>(p x).1)=l.map (fun x=>(q x).1):=List.map_congr_left fun x hx=>by rw[h x hx]
 have e2:l.map (fun x=>(p x).2)=l.map (fun x=>(q x).2):=List.map_congr_left fun x hx=>by rw[h x hx]
 unfold Pe;rw[e1,e2]
def aiu (p:Int × Int):Bool:=decide (p.2<p.1)
def brf (k:Wk):Nat->Nat->Int × Int
 |0,_=>(1,0)
 |f+1,i=>if k.fills i=[] then aiM k i else if (k.fills i).any (fun x=>aiu (brf k f x)) then(1,0) else aiw (aiM k i) ((Pe (brf k f) (k.fills i)).1+(k.v i).lo,(Pe (brf k f) (k.fills i)).2+(k.v i).hi)
def brI (k:Wk) (i:Nat):Int × Int:=brf k (k.n-i) i
theorem aiP (hok:k.Ok):∀ (f g i:Nat),k.n-i<=f->k.n-i<=g->i<k.n->brf k f i=brf k g i
 |0,g,i,h,_,hi=>by omega
 |f+1,0,i,_,h,hi=>by omega
 | f+1,g+1,i,h1,h2,hi=>by
  have e:∀ x∈k.fills i,brf k f x=brf k g x:=fun x hx=>by
   have:=rV hok hx;exact aiP hok f g x (by omega) (by omega) this.2
  have e1:(k.fills i).any (fun x=>aiu (brf k f x))=(k.fills i).any (fun x=>aiu (brf k g x)):=by
   rw[Bool.eq_iff_iff,List.any_eq_true,List.any_eq_true];exact⟨fun⟨x,hx,h⟩=>⟨x,hx,by rw[<- e x hx];exact h⟩,fun⟨x,hx,h⟩=>⟨x,hx,by rw[e x hx];exact h⟩⟩
  have e2:Pe (brf k f) (k.fills i)=Pe (brf k g) (k.fills i):=aiA e;rw[brf,brf,e1,e2]
theorem ajl (hok:k.Ok) (hi:i<k.n):brI k i=if k.fills i=[] then aiM k i else if (k.fills i).any (fun x=>aiu (brI k x)) then(1,0) else aiw (aiM k i) ((Pe (brI k) (k.fills i)).1+(k.v i).lo,(Pe (brI k) (k.fills i)).2+(k.v i).hi):=by
 have e:∀ x∈k.fills i,brf k (k.n-i-1) x=brI k x:=fun x hx=>by
  have:=rV hok hx;exact aiP hok _ _ x (by omega) (Nat.le_refl _) this.2
 have e1:(k.fills i).any (fun x=>aiu (brf k (k.n-i-1) x))=(k.fills i).any (fun x=>aiu (brI k x)):=by
  rw[Bool.eq_iff_iff,List.any_eq_true,List.any_eq_true];exact⟨fun⟨x,hx,h⟩=>⟨x,hx,by rw[<- e x hx];exact h⟩,fun⟨x,hx,h⟩=>⟨x,hx,by rw[e x hx];exact h⟩⟩
 have e2:Pe (brf k (k.n-i-1)) (k.fills i)=Pe (brI k) (k.fills i):=aiA e;show brf k (k.n-i) i=_;rw[show k.n-i=(k.n-i-1)+1 by omega,brf,e1,e2]
def inI (p:Int × Int) (m:Nat):Prop:=p.1<=m/\(m:Int)<=p.2
theorem aiH (a b:Int × Int) (m:Nat):inI (aiw a b) m↔inI a m/\inI b m:=by
 unfold inI aiw;simp only;omega
theorem aiS {k:Wk} (hok:k.Ok) {i:Nat} (hi:i<k.n) (m:Nat):((aN k aC).aK i).testBit m=true↔inI (aiM k i) m:=by
 have hroom:=hok.ves i hi;rw[Dh hok.le (yF hok) aC hi,TQ,wI];have key:∀ (l:List je) (s:Int × Int),inI (l.foldl (fun s r=>aiw s (r.shown-r.err,r.shown+r.err)) s) m↔inI s m/\∀ r∈l,inI (r.shown-r.err,r.shown+r.err) m:=fun l=>by
  induction l with
  |nil=>intro s;simp
  |cons r l ih =>
   intro s;rw[List.foldl_cons,ih,aiH];simp only[List.mem_cons,forall_eq_or_imp];exact⟨fun⟨⟨a,b⟩,c⟩=>⟨a,b,c⟩,fun⟨a,b,c⟩=>⟨⟨a,b⟩,c⟩⟩
 unfold aiM;rw[key];have h40:(k.v i).room<=40:=hroom.2.2.2.1;constructor
 ·rintro ⟨h1,h2⟩;simp only [Bool.and_eq_true,decide_eq_true_eq] at h1;refine ⟨⟨h1.1.1,h1.1.2⟩,fun r hr=>?_⟩;obtain ⟨hr1,hr2⟩:=List.mem_filter.1 hr;have h3:=h2 r (List.mem_filter.2 ⟨hr1,by
   rw[beq_iff_eq]at hr2;simp[aC,hr2]⟩)
  rw[wI]at h3;simp only[Bool.and_eq_true,decide_eq_true_eq]at h3;exact⟨h3.1.1,h3.1.2⟩
 ·rintro ⟨⟨h1,h2⟩,h3⟩;simp only at h1 h2;refine⟨by simp only[Bool.and_eq_true,decide_eq_true_eq];omega,fun r hr=>?_⟩;obtain⟨hr1,hr2⟩:=List.mem_filter.1 hr;simp only[aC,Bool.not_false,Bool.true_and,beq_iff_eq]at hr2;have h4:=yF hok r hr1;have h5:=h3 r (List.mem_filter.2 ⟨hr1,by rw[beq_iff_eq];omega⟩);obtain⟨h6,h7⟩:=h5;simp only at h6 h7;rw[wI];simp only[Bool.and_eq_true,decide_eq_true_eq];omega
theorem aju (k:Wk) (i:Nat):0<=(aiM k i).1:=by
 have key:∀ (l:List je) (s:Int × Int),0<=s.1->0<=(l.foldl (fun s r=>aiw s (r.shown-r.err,r.shown+r.err)) s).1:=fun l=>by
  induction l with
  |nil=>intro s h;exact h
  |cons r l ih =>
   intro s h;rw[List.foldl_cons];refine ih _ ?_;unfold aiw;simp only;omega
 exact key _ _ (Int.le_refl _)
theorem aiT (hok:k.Ok) (hi:i<k.n):0<=(brI k i).1:=by
 have:=aju k i;rw[ajl hok hi];split
 ·exact this
 ·split
  ·decide
  ·unfold aiw;simp only;omega
theorem aiz {p:Nat->Int × Int}:∀ (l:List Nat),l.Nodup->(∀ x∈l,0<=(p x).1/\(p x).1<=(p x).2)->∀ t:Nat,(∃ c:Nat->Nat,(∀ x∈l,inI (p x) (c x))/\t=(l.map c).sum)↔inI (Pe p l) t
 | [],_,_,t=>by
  unfold inI Pe;simp only[List.map_nil,List.sum_nil];constructor
  ·rintro ⟨c,_,rfl⟩;exact⟨by decide,by decide⟩
  ·rintro ⟨h1,h2⟩;exact⟨fun _=>0,(fun x hx=>nomatch hx),by omega⟩
 | a::l,hd,hp,t=>by
  obtain⟨h1,h2⟩:=List.nodup_cons.1 hd;have ih:=aiz l h2 fun x hx=>hp x (by simp[hx])
  obtain⟨hp0,hp1⟩:=hp a (by simp);have hlo:0<=(Pe p l).1/\(Pe p l).1<=(Pe p l).2:=by
   clear ih h1 h2 hd;unfold Pe;simp only
   induction l with
   |nil=>simp
   |cons b l ih2 =>
    have h3:=hp b (by simp);have h4:=ih2 fun x hx=>hp x (by rcases List.mem_cons.1 hx with rfl|hx<;>simp_all)
    simp only[List.map_cons,List.sum_cons];omega
  have hs1:(Pe p (a::l)).1=(p a).1+(Pe p l).1:=by simp[Pe]
  have hs2:(Pe p (a::l)).2=(p a).2+(Pe p l).2:=by simp[Pe]
  constructor
  ·rintro ⟨c,hc,rfl⟩;have h3:=(ih (l.map c).sum).1 ⟨c,fun x hx=>hc x (by simp[hx]),rfl⟩;have h4:=hc a (by simp);unfold inI at h3 h4 |-;rw[hs1,hs2,List.map_cons,List.sum_cons];omega
  ·intro h;unfold inI at h;rw [hs1,hs2] at h;have hy:∃ y z:Nat,inI (p a) y/\inI (Pe p l) z/\t=y+z:=by
    unfold inI;by_cases h5:(t:Int)-(Pe p l).1<=(p a).2
    ·exact⟨((t:Int)-(Pe p l).1).toNat,((Pe p l).1).toNat,by omega,by omega,by omega⟩
    ·exact⟨((p a).2).toNat,((t:Int)-(p a).2).toNat,by omega,by omega,by omega⟩
   obtain⟨y,z,hy1,hz,rfl⟩:=hy;obtain⟨c,hc,hz2⟩:=(ih z).2 hz;refine⟨fun x=>if x=a then y else c x,fun x hx=>?_,?_⟩
   ·rcases List.mem_cons.1 hx with rfl | hx
    ·simpa using hy1
    ·have:x≠a:=fun e=>h1 (e ▸ hx)
     simpa[this]using hc x hx
   ·have e:l.map (fun x=>if x=a then y else c x)=l.map c:=List.map_congr_left fun x hx=>by
     have:x≠a:=fun e=>h1 (e ▸ hx)
     simp[this]
    rw[List.map_cons,List.sum_cons,e,if_pos rfl,hz2]
theorem ajD {k:Wk} (hok:k.Ok):∀ (d i:Nat),k.n - i<=d->i < k.n->∀ m,((up k (aN k aC)).getD i 0).testBit m=true↔inI (brI k i) m:=fun d=>by
 induction d with
 |zero=>exact fun i h1 h2=>by omega
 | succ d ih =>
  intro i h1 hi m;have hs:=gG k aC;have ihx:∀ x∈k.fills i,∀ m,((up k (aN k aC)).getD x 0).testBit m=true↔inI (brI k x) m:=fun x hx=>by
   have:=rV hok hx;exact ih x (by omega) this.2
  have hxn:∀ x∈k.fills i,x<k.n:=fun x hx=>(rV hok hx).2
  rw[aaT hok _ hi,ajl hok hi];by_cases hf:k.fills i=[]
  ·rw[if_pos hf,if_pos hf,aiS hok hi]
  ·rw [if_neg hf,if_neg hf,Nat.testBit_and,Bool.and_eq_true,aiS hok hi,Ak];have h40:inI (aiM k i) m->m<=40:=fun h=>GU hs ((aiS hok hi m).2 h)
   have hlos:(aN k aC).aP i=((k.v i).lo,(k.v i).hi):=by rw[rW k hok,if_pos hi]
   obtain⟨_,_,_,_,o5,o6,o7,o8,o9⟩:=hok.ves i hi;by_cases he:(k.fills i).any (fun x=>aiu (brI k x))=true
   ·rw [if_pos he];obtain ⟨x,hx,hxe⟩:=List.any_eq_true.1 he;unfold aiu at hxe;rw [decide_eq_true_eq] at hxe;constructor
    ·rintro ⟨_,_,a,b,ha,_⟩;obtain⟨_,c,hc,_⟩:=(MB _ (Bg k i) hf a).1 ha;have:=(ihx x hx _).1 (hc x hx);unfold inI at this;omega
    ·intro h;unfold inI at h;simp only at h;omega
   ·rw [if_neg he,aiH];have hne:∀ x∈k.fills i,0<=(brI k x).1/\(brI k x).1<=(brI k x).2:=fun x hx=>⟨aiT hok (hxn x hx),Decidable.byContradiction fun h=>he (List.any_eq_true.2 ⟨x,hx,by unfold aiu;rw [decide_eq_true_eq];omega⟩)⟩
    have hsr:=aiz (p:=brI k) (k.fills i) (Bg k i) hne;constructor
    ·rintro ⟨ho,hm,a,b,ha,hb,rfl⟩;obtain⟨_,c,hc,rfl⟩:=(MB _ (Bg k i) hf a).1 ha;have h3:=(hsr _).1 ⟨c,fun x hx=>(ihx x hx _).1 (hc x hx),rfl⟩;rw[hlos,wI]at hb;simp only[Bool.and_eq_true,decide_eq_true_eq]at hb;refine⟨ho,?_⟩;unfold inI at h3 |-;simp only;omega
    ·rintro ⟨ho,h3⟩;have hm:=h40 ho;unfold inI at h3;simp only at h3;have hlo:0<=(Pe (brI k) (k.fills i)).1/\(Pe (brI k) (k.fills i)).1<=(Pe (brI k) (k.fills i)).2:=by
      have g:∀ l:List Nat,(∀ x∈l,0<=(brI k x).1/\(brI k x).1<=(brI k x).2)->0<=(Pe (brI k) l).1/\(Pe (brI k) l).1<=(Pe (brI k) l).2:=fun l=>by
       unfold Pe;simp only
       induction l with
       |nil=>intro _;simp
       |cons b l ih2 =>
        intro hp;have h5:=hp b (by simp);have h6:=ih2 fun x hx=>hp x (by simp[hx])
        simp only[List.map_cons,List.sum_cons];omega
      exact g _ hne
     have hab:∃ a b:Nat,inI (Pe (brI k) (k.fills i)) a/\(k.v i).lo<=b/\(b:Int)<=(k.v i).hi/\a+b=m:=by
      unfold inI;by_cases h5:(m:Int)-(Pe (brI k) (k.fills i)).1<=(k.v i).hi
      ·exact⟨((Pe (brI k) (k.fills i)).1).toNat,((m:Int)-(Pe (brI k) (k.fills i)).1).toNat,by omega,by omega,by omega,by omega⟩
      ·exact⟨((m:Int)-(k.v i).hi).toNat,((k.v i).hi).toNat,by omega,by omega,by omega,by omega⟩
     obtain⟨a,b,ha,hb1,hb2,rfl⟩:=hab;obtain⟨c,hc,hac⟩:=(hsr a).2 ha;refine⟨ho,hm,a,b,(MB _ (Bg k i) hf a).2 ⟨by omega,c,fun x hx=>(ihx x hx _).2 (hc x hx),hac⟩,?_,rfl⟩;rw[hlos,wI];simp only[Bool.and_eq_true,decide_eq_true_eq];omega
theorem aiW (hok:k.Ok) (hi:i<k.n) (m:Nat):((up k (aN k aC)).getD i 0).testBit m=true↔inI (brI k i) m:=ajD hok _ i (Nat.le_refl _) hi m
def ajk (k:Wk) (u v:Nat):Int × Int:=Pe (brI k) ((k.fills u).filter fun x=>x != v)
def aiK (k:Wk):Nat->Nat->Int × Int
 |0,_=>(1,0)
 |f+1,v=>if (k.v v).from_<0 then brI k v else aiw (brI k v) ((aiK k f (k.v v).from_.toNat).1-(ajk k (k.v v).from_.toNat v).2-(k.v (k.v v).from_.toNat).hi,(aiK k f (k.v v).from_.toNat).2-(ajk k (k.v v).from_.toNat v).1-(k.v (k.v v).from_.toNat).lo)
def allI (k:Wk) (v:Nat):Int × Int:=aiK k (v+1) v
theorem aiE {k:Wk} (hok:k.Ok):∀ (f g v:Nat),v<f->v<g->v<k.n->aiK k f v=aiK k g v
 |0,g,v,h,_,_=>by omega
 |f+1,0,v,_,h,_=>by omega
 |f+1,g+1,v,h1,h2,hv=>by
  rw[aiK,aiK];by_cases h:(k.v v).from_<0
  ·rw[if_pos h,if_pos h]
  ·have:=(hok.ves v hv).2.1;rw[if_neg h,if_neg h,aiE hok f g _ (by omega) (by omega) (by omega)]
theorem aiZ (hok:k.Ok) (hv:v<k.n):allI k v=if (k.v v).from_<0 then brI k v else aiw (brI k v) ((allI k (k.v v).from_.toNat).1-(ajk k (k.v v).from_.toNat v).2-(k.v (k.v v).from_.toNat).hi,(allI k (k.v v).from_.toNat).2-(ajk k (k.v v).from_.toNat v).1-(k.v (k.v v).from_.toNat).lo):=by
 show aiK k (v+1) v=_;rw[aiK];by_cases h:(k.v v).from_<0
 ·rw[if_pos h,if_pos h]
 ·have:=(hok.ves v hv).2.1;rw[if_neg h,if_neg h,aiE hok v ((k.v v).from_.toNat+1) _ (by omega) (by omega) (by omega)];rfl
theorem ai7 (hok:k.Ok) (hu:u<k.n) {w3 c:Nat->Nat} {d:Nat} (h3:Hu k (aN k aC) w3) (hc:∀ x∈k.fills u,inI (brI k x) (c x)) (hd:(k.v u).lo<=d/\(d:Int)<=(k.v u).hi) (he:w3 u=((k.fills u).map c).sum+d) :
  ∃ w,Hu k (aN k aC) w/\w u=w3 u/\∀ x∈k.fills u,w x=c x:=by
 have hs:=gG k aC;obtain⟨w,h1,h2⟩:=ab7 hok (s:=aN k aC) (f:=k.fills u) (fr:=(u:Int)) (fun x hx=>gK.1 hx) (Wp:=fun x w=>w x=c x)
  (fun x hx=>(Vy hok hs x (gK.1 hx).1 (c x)).1 ((aiW hok (gK.1 hx).1 (c x)).2 (hc x hx))) w3
 have hxc:∀ x∈k.fills u,w x=c x:=fun x hx=>by
  obtain⟨wx,g1,g2⟩:=h2 x hx;rw[(g2 x (gK.1 hx).1 (gq k x)).1,g1]
 have huo:∀ x∈k.fills u,inB k x u=false:=fun x hx=>by
  cases hh:inB k x u
  ·rfl
  ·have:=DN hok x u hu hh;have:=rV hok hx;omega
 have hwu:w u=w3 u:=h1 u huo;refine⟨w,fun j hj=>?_,hwu,hxc⟩;by_cases hin:∃ x∈k.fills u,inB k x j=true
 ·obtain⟨x,hx,hb⟩:=hin;obtain⟨wx,_,g2⟩:=h2 x hx;exact(g2 j hj hb).2
 ·have hno:∀ x∈k.fills u,inB k x j=false:=fun x hx=>by
   cases hh:inB k x j
   ·rfl
   ·exact absurd ⟨x,hx,hh⟩ hin
  by_cases hju:j=u
  ·subst hju;refine ⟨by rw [hwu];exact (h3 j hj).1,fun hf=>⟨d,?_,?_⟩⟩
   ·rw[rW k hok,if_pos hj,wI];obtain⟨_,_,_,_,o5,o6,o7,o8,o9⟩:=hok.ves j hj;simp only[Bool.and_eq_true,decide_eq_true_eq];omega
   ·rw[hwu,he,List.map_congr_left hxc]
  ·refine (h3 j hj).congr (h1 j hno) fun y hy=>h1 y fun x hx=>?_
   obtain⟨hy1,hy2⟩:=gK.1 hy;obtain⟨hx1,hx2⟩:=gK.1 hx;cases hh:inB k x y
   ·rfl
   ·rw [kJ hok x hy1,Bool.or_eq_true,Bool.and_eq_true,beq_iff_eq,decide_eq_true_eq] at hh;rcases hh with hh | ⟨_,hh⟩
    ·subst hh;rw[hx2]at hy2;exact absurd (by omega:j=u) hju
    ·rw[hy2,Int.toNat_natCast,hno x hx]at hh;cases hh
theorem aiy (c:Nat->Nat) (v:Nat):∀ l:List Nat,l.Nodup->v∈l->(l.map c).sum=c v+((l.filter fun x=>x != v).map c).sum
 | [],_,h=>by cases h
 | a::l,hd,h=>by
  obtain⟨h1,h2⟩:=List.nodup_cons.1 hd;by_cases e:a=v
  ·subst e;have:(a::l).filter (fun x=>x != a)=l:=by
    rw[List.filter_cons_of_neg (by simp)];exact List.filter_eq_self.2 fun x hx=>by
     have:x≠a:=fun e=>h1 (e ▸ hx)
     simpa using this
   rw[this,List.map_cons,List.sum_cons]
  ·have hm:v∈l:=by
    rcases List.mem_cons.1 h with rfl|h
    ·exact absurd rfl e
    ·exact h
   have ih:=aiy c v l h2 hm;rw[List.filter_cons_of_pos (by simpa using e),List.map_cons,List.sum_cons,List.map_cons,List.sum_cons];omega
theorem ai0 (hok:k.Ok) (h:Hu k (aN k aC) w) (hi:i<k.n):inI (brI k i) (w i) :=
 (aiW hok hi _).1 ((Vy hok (gG _ _) i hi _).2 ⟨w,rfl,fun j hj _=>h j hj⟩)
theorem ajP (hok:k.Ok) (h:Hu k (aN k aC) w) (hi:i<k.n):0<=(brI k i).1/\(brI k i).1<=(brI k i).2:=by
 have h1:=ai0 hok h hi;have h2:=aiT hok hi;unfold inI at h1;omega
theorem aiY {p:Nat->Int × Int}:∀ l:List Nat,(∀ x∈l,0<=(p x).1/\(p x).1<=(p x).2)->0<=(Pe p l).1/\(Pe p l).1<=(Pe p l).2
 | [],_=>by simp[Pe]
 |a::l,h=>by
  have h1:=h a (by simp);have h2:=aiY l fun x hx=>h x (by simp[hx])
  unfold Pe at h2 |-;simp only[List.map_cons,List.sum_cons]at h2 |-;omega
theorem ajr (hok:k.Ok) (h:Hu k (aN k aC) w) (hu:u<k.n) (hf:k.fills u≠[]):∃ d:Nat,(k.v u).lo<=d/\(d:Int)<=(k.v u).hi/\w u=((k.fills u).map w).sum+d:=by
 obtain⟨d,hd,he⟩:=(h u hu).2 hf;rw[rW k hok,if_pos hu,wI]at hd;simp only[Bool.and_eq_true,decide_eq_true_eq]at hd;exact⟨d,hd.1.1,hd.1.2,he⟩
theorem all_in {k:Wk} (hok:k.Ok) {w0:Nat->Nat} (h0:Hu k (aN k aC) w0) (v:Nat):v<k.n->∀ m,(∃ w,Hu k (aN k aC) w/\w v=m)↔inI (allI k v) m:=by
 induction v using Nat.strongRecOn with
 | ind v ih =>
  intro hv m;have hs:=gG k aC;obtain⟨o1,o2,_⟩:=hok.ves v hv;rw[aiZ hok hv];by_cases hr:(k.v v).from_<0
  ·rw [if_pos hr];constructor
   ·rintro ⟨w,hw,rfl⟩;exact ai0 hok hw hv
   ·intro hm;obtain ⟨w,h1,h2⟩:=ab7 hok (s:=aN k aC) (f:=[v]) (fr:=(k.v v).from_) (fun x hx=>by rw [List.mem_singleton] at hx;subst hx;exact ⟨hv,rfl⟩) (Wp:=fun x w=>w x=m)
     (fun x hx=>by rw[List.mem_singleton]at hx;subst hx;exact(Vy hok hs x hv m).1 ((aiW hok hv m).2 hm)) w0
    obtain⟨wx,g1,g2⟩:=h2 v (by simp);refine⟨w,fun j hj=>?_,by rw[(g2 v hv (gq k v)).1,g1]⟩;cases hb:inB k v j
    ·have hno:∀ j,inB k v j=false->w j=w0 j:=fun j h=>h1 j fun x hx=>by rw [List.mem_singleton] at hx;subst hx;exact h
     refine(h0 j hj).congr (hno j hb) fun y hy=>hno y ?_
     obtain⟨hy1,hy2⟩:=gK.1 hy;cases hh:inB k v y
     ·rfl
     ·rw [kJ hok v hy1,Bool.or_eq_true,Bool.and_eq_true,beq_iff_eq,decide_eq_true_eq] at hh;rcases hh with hh | ⟨_,hh⟩
      ·subst hh;omega
      ·rw[hy2,Int.toNat_natCast,hb]at hh;cases hh
    ·exact(g2 j hj hb).2
  ·rw [if_neg hr];obtain ⟨u,hu⟩:∃ u:Nat,(k.v v).from_=(u:Int):=⟨(k.v v).from_.toNat,by omega⟩;rw [hu,Int.toNat_natCast];have huv:u < v:=by omega
   have hun:u<k.n:=by omega
   have ihu:=ih u huv hun;have hvf:v∈k.fills u:=gK.2 ⟨hv,hu⟩;have hfn:k.fills u≠[]:=List.ne_nil_of_mem hvf;have hxn:∀ x∈(k.fills u).filter (fun x=>x != v),0<=(brI k x).1/\(brI k x).1<=(brI k x).2:=fun x hx=>ajP hok h0 (gK.1 (List.mem_filter.1 hx).1).1
   have hsr:=aiz (p:=brI k) ((k.fills u).filter fun x=>x != v) ((Bg k u).filter _) hxn;have hsn:=aiY ((k.fills u).filter fun x=>x != v) hxn;have hoE:ajk k u v=Pe (brI k) ((k.fills u).filter fun x=>x != v):=rfl;rw[aiH,hoE];generalize Pe (brI k) ((k.fills u).filter fun x=>x != v)=S at hsr hsn;obtain⟨q1,q2,q3,q4,o5,o6,o7,o8,o9⟩:=hok.ves u hun;constructor
   ·rintro ⟨w,hw,rfl⟩;refine⟨ai0 hok hw hv,?_⟩;have h1:=(ihu (w u)).1 ⟨w,hw,rfl⟩;obtain⟨d,hd1,hd2,he⟩:=ajr hok hw hun hfn;rw[aiy w v _ (Bg k u) hvf]at he;have h2:=(hsr (((k.fills u).filter fun x=>x != v).map w).sum).1 ⟨w,fun x hx=>ai0 hok hw (gK.1 (List.mem_filter.1 hx).1).1,rfl⟩;unfold inI at h1 h2 |-;simp only;omega
   ·rintro ⟨hm,h2⟩;unfold inI at h2;simp only at h2;have hau:(allI k u).1<=(allI k u).2/\0<=(allI k u).2:=by
     have:=(ihu (w0 u)).1 ⟨w0,h0,rfl⟩;unfold inI at this;omega
    have hyt:∃ y t d:Nat,inI (allI k u) y/\inI S t/\(k.v u).lo<=d/\(d:Int)<=(k.v u).hi/\y=m+t+d:=by
     unfold inI;by_cases g1:(allI k u).1<=(m:Int)+S.1+(k.v u).lo
     ·exact⟨((m:Int)+S.1+(k.v u).lo).toNat,S.1.toNat,((k.v u).lo).toNat,by omega,by omega,by omega,by omega,by omega⟩
     ·by_cases g2:(allI k u).1<=(m:Int)+S.2+(k.v u).lo
      ·exact⟨((allI k u).1).toNat,((allI k u).1-m-(k.v u).lo).toNat,((k.v u).lo).toNat,by omega,by omega,by omega,by omega,by omega⟩
      ·exact⟨((allI k u).1).toNat,S.2.toNat,((allI k u).1-m-S.2).toNat,by omega,by omega,by omega,by omega,by omega⟩
    obtain⟨y,t,d,hy,ht,hd1,hd2,he⟩:=hyt;obtain⟨w3,h3,h4⟩:=(ihu y).2 hy;obtain⟨c,hc,hct⟩:=(hsr t).2 ht;have hcE:(((k.fills u).filter fun x=>x != v).map fun x=>if x=v then m else c x)=((k.fills u).filter fun x=>x != v).map c:=List.map_congr_left fun x hx=>by
     have:x≠v:=by simpa using(List.mem_filter.1 hx).2
     rw[if_neg this]
    obtain⟨w,hw,_,hwx⟩:=ai7 hok hun (c:=fun x=>if x=v then m else c x) (d:=d) h3 (fun x hx=>by
      by_cases e:x=v
      ·subst e;simpa using hm
      ·simpa[e]using hc x (List.mem_filter.2 ⟨hx,by simpa using e⟩)) ⟨hd1,hd2⟩ (by
      rw[aiy _ v _ (Bg k u) hvf,hcE,if_pos rfl,<- hct,h4];exact he)
    exact⟨w,hw,by rw[hwx v hvf,if_pos rfl]⟩
theorem aiR (hok:k.Ok) {w0:Nat->Nat} (h0:Hu k (aN k aC) w0) (hv:v<k.n):aO k (aN k aC) v=allI k v:=by
 have hA:=all_in hok h0 v hv;have h1:=(hA (w0 v)).1 ⟨w0,h0,rfl⟩;have hlo:0<=(allI k v).1:=by
  have h2:=aiT hok hv;rw[aiZ hok hv];split
  ·exact h2
  ·unfold aiw;simp only;omega
 refine(abA hok hv h0).eq (S':=fun y=>∃ w,Hu k (aN k aC) w/\y=(w v:Int)) ?_ fun y=>Iff.rfl
 unfold inI at h1;refine⟨?_,?_,?_⟩
 ·obtain⟨w,hw,he⟩:=(hA (allI k v).1.toNat).2 (by unfold inI;omega);exact⟨w,hw,by omega⟩
 ·obtain⟨w,hw,he⟩:=(hA (allI k v).2.toNat).2 (by unfold inI;omega);exact⟨w,hw,by omega⟩
 ·rintro y ⟨w,hw,rfl⟩;exact(hA (w v)).1 ⟨w,hw,rfl⟩
end Go.Wg
namespace Go.Wg
open Go Go.Mm Go.Proofs.YtjjmefieegcddaaDoor
variable {k:Wk} {l:List Int}
theorem aev {ws:List Int} (h:Truth k ws):listOf k (fun i=>(ws.getD i 0).toNat)=ws:=by
 refine List.ext_getElem (by rw[adB,h.len]) fun j h1 h2=>?_
 have hj:j<k.n:=by rw[adB]at h1;exact h1
 have h3:=listOf_at (k:=k) (fun i=>(ws.getD i 0).toNat) hj;rw[List.getD_eq_getElem?_getD,List.getElem?_eq_getElem h1,Option.getD_some]at h3;rw[h3];have h4:=(h.room j hj).1;rw[List.getD_eq_getElem?_getD,List.getElem?_eq_getElem h2,Option.getD_some]at h4 |-;omega
theorem ad6 (hok:k.Ok) (h:Truth k l):∀ i,i<k.n->0<=l.getD i 0/\l.getD i 0<=40:=fun i hi=>by
 have h1:=h.room i hi;have h2:=(hok.ves i hi).2.2.2.1;omega
theorem adX (hok:k.Ok) (h:Truth k l):∀ i,i<(ads k l).length->0<=(ads k l).getD i 0/\(ads k l).getD i 0<=20:=fun i hi=>by
 rw[adA]at hi;have e:(ads k l).getD i 0=adx k l i:=by simp[ads,List.getD_eq_getElem?_getD,hi]
 rw[e];have hv:=hok.ves i hi;obtain⟨_,_,_,_,o5,o6,o7,o8,_⟩:=hv;by_cases hf:k.fills i=[]
 ·unfold adx;rw[if_pos hf];omega
 ·have:=(((ad2 h.len).1 h).1 i hi).2 hf;omega
end Go.Wg
namespace Go.Proofs.YtjjmefieegcddaaDoor
open Go.RowKit Go.Wg Go.Mm Go.Wk
open Go Go.Sr Go.Ph Go.Tm Go.Conc
variable {w w0:World} {V:View}
end Go.Proofs.YtjjmefieegcddaaDoor
namespace Go.Wg
open Go Go.Mm Go.Proofs.YtjjmefieegcddaaDoor
variable {k:Wk} {y:Nat}
def ain (f:List Int->Int) (A:List (List Int)):Nat->Int × Int
 |0=>(0,0)
 |i+1=>if i=0 then(f (A.getD 0 []),f (A.getD 0 [])) else(min (ain f A i).1 (f (A.getD i [])),max (ain f A i).2 (f (A.getD i [])))
theorem aiQ (f:List Int->Int) (A:List (List Int)):∀ i,0<i->i<=A.length->Least (fun y=>∃ l∈A.take i,y=f l) (ain f A i)
 |0,h,_=>by omega
 | i+1,_,hi=>by
  have hA:A.take (i+1)=A.take i ++ [A.getD i []]:=by
   rw[List.take_add_one,List.getElem?_eq_getElem (by omega)];simp[List.getD_eq_getElem?_getD,List.getElem?_eq_getElem (show i<A.length by omega)]
  rw[ain,hA];by_cases h0:i=0
  ·subst h0;rw [if_pos rfl];refine ⟨⟨_,by simp,rfl⟩,⟨_,by simp,rfl⟩,?_⟩;rintro y ⟨l,hl,rfl⟩;have:l=A.getD 0 []:=by simpa using hl
   subst this;exact⟨Int.le_refl _,Int.le_refl _⟩
  ·rw [if_neg h0];obtain ⟨⟨l1,h1,h2⟩,⟨l2,h3,h4⟩,h5⟩:=aiQ f A i (by omega) (by omega);refine ⟨?_,?_,?_⟩
   ·rcases Int.le_total (ain f A i).1 (f (A.getD i [])) with h | h
    ·exact⟨l1,by simp[h1],by omega⟩
    ·exact⟨A.getD i [],by simp,by omega⟩
   ·rcases Int.le_total (ain f A i).2 (f (A.getD i [])) with h | h
    ·exact⟨A.getD i [],by simp,by omega⟩
    ·exact⟨l2,by simp[h3],by omega⟩
   ·rintro y ⟨l,hl,rfl⟩;rcases List.mem_append.1 hl with hl | hl
    ·have:=h5 _ ⟨l,hl,rfl⟩;omega
    ·rw[List.mem_singleton]at hl;subst hl;omega
theorem ai1 (hok:k.Ok) (hr:∀ i,i<k.n->(k.v i).room<=6) (hn:jv k≠[]) {f:List Int->Int} {F:(Nat->Nat)->Int} {r:Int × Int} (hL:Least (fun y=>∃ w,Hu k (aN k aC) w/\y=F w) r) (hf:∀ w,Hu k (aN k aC) w->f (listOf k w)=F w):ain f (jv k) (jv k).length=r:=by
 have h1:=aiQ f (jv k) (jv k).length (List.length_pos_iff.2 hn) (Nat.le_refl _);rw[List.take_length]at h1;refine h1.eq hL fun y=>⟨?_,?_⟩
 ·rintro ⟨l,hl,rfl⟩;have ht:=(ahk hr).1 hl;refine⟨_,adq hok ht,?_⟩;rw[<- hf _ (adq hok ht),aev ht]
 ·rintro ⟨w,hw,rfl⟩;exact⟨_,(ahk hr).2 (aeD hok hw),(hf w hw).symm⟩
theorem aiL (hok:k.Ok) (hr:∀ i,i<k.n->(k.v i).room<=6) (hn:jv k≠[]):qN k=((jv k).getD 0 [],0):=by
 obtain⟨w0,h0⟩:=(QS hok (gG _ _)).1 ((ahy hok hr).2 hn);obtain⟨w,hw,hE,hfi⟩:=ad3 hok h0;have hm:=(ahk hr).2 (aeD hok hw);have hp:(jv k).Pairwise Lex:=by
  unfold jv;exact(aiN 7 k.n).filter _
 cases hA:jv k with
 |nil=>exact absurd hA hn
 |cons a t =>
  rw[hA]at hm hp;rw[hE,List.getD_cons_zero];rcases List.mem_cons.1 hm with h|h
  ·rw[h]
  ·obtain⟨i,hi,h1,h2⟩:=(List.pairwise_cons.1 hp).1 _ h;have ha:Truth k a:=(ahk hr).1 (by rw[hA];simp);have h3:=hfi a ha i (by rw[<- ha.len];exact hi) h1;omega
def ais (A:List (List Int)) (v i:Nat):List Bool:=(List.range 7).map fun y:Nat=>(A.take i).any fun l=>l.getD v 0 == (y:Int)
theorem ai2 (A:List (List Int)) (v i:Nat):(ais A v i).length=7:=by simp[ais]
theorem aiU (A:List (List Int)) (v:Nat):ais A v 0=List.replicate 7 false:=by
 unfold ais;rw[List.take_zero];rfl
theorem aiV (A:List (List Int)) (v:Nat) {i:Nat} (hi:i<A.length) (hy:(A.getD i []).getD v 0=(y:Int)):(ais A v i).set y true=ais A v (i+1):=by
 refine List.ext_getElem (by simp[ais]) fun j h1 h2=>?_
 rw[List.getElem_set];simp only[ais,List.getElem_map,List.getElem_range];have e:A.take (i+1)=A.take i ++ [A.getD i []]:=by
  rw[List.take_add_one,List.getElem?_eq_getElem hi];simp[List.getD_eq_getElem?_getD,List.getElem?_eq_getElem hi]
 rw[e,List.any_append,List.any_cons,List.any_nil,hy,Bool.or_false];by_cases h:y=j
 ·subst h;simp
 ·have:((y:Int) == (j:Int))=false:=by rw [beq_eq_false_iff_ne];omega
  rw[if_neg h,this,Bool.or_false]
theorem ajo (hok:k.Ok) (hr:∀ i,i<k.n->(k.v i).room<=6) (hn:jv k≠[]) {v:Nat} (hv:v<k.n) (h1:(aO k (aN k aC) v).1<=y) (h2:(y:Int)<=(aO k (aN k aC) v).2):y<=6/\(ais (jv k) v (jv k).length).getD y false=true:=by
 obtain⟨w0,h0⟩:=(QS hok (gG _ _)).1 ((ahy hok hr).2 hn);rw[aiR hok h0 hv]at h1 h2;obtain⟨w,hw,he⟩:=(all_in hok h0 v hv y).2 ⟨h1,h2⟩;have ht:=aeD hok hw;have h3:=(ht.room v hv).2;rw[listOf_at w hv,he]at h3;have h4:=hr v hv;refine⟨by omega,?_⟩;unfold ais;have h7:y<7:=by omega
 rw[List.take_length];simp only[List.getD_eq_getElem?_getD,List.getElem?_map,List.getElem?_range h7,Option.map_some,Option.getD_some];rw[List.any_eq_true];refine⟨_,(ahk hr).2 ht,?_⟩;have h8:=listOf_at w hv;rw[he,List.getD_eq_getElem?_getD]at h8;rw[h8];simp
theorem aiX (hok:k.Ok) (hr:∀ i,i<k.n->(k.v i).room<=6) (hn:jv k=[]):qN k=([],9):=by
 have hc:¬ (settle k (aN k aC)).isNone=true:=fun h=>(ahy hok hr).1 h hn
 unfold qN;rw[if_pos (G7 hok [] fun n hn=>nomatch hn),if_neg hc]
end Go.Wg
namespace Go.Proofs.YtjjmefieegcddaaDoor
open Go.RowKit Go.Wg Go.Mm
variable {w:World} {V:View}
theorem aji (x y n:Int) (w:World):Calls Tryd.prog 71 #[.agg #[.int .i64 x,.int .i64 y],.int .i64 n,.bool true] w fun e w'=>e=.returned (.agg #[.int .i64 (min x n),.int .i64 (max y n)])/\Kp w w':=by
 have hS:=St.start w (fun _=>none) (fun _ _ h=>nomatch h);go_enter Tryd.func71,Tryd.ntmps71
 go_wp2_with (first|((with_reducible refine gMn ?_);refine Gx rfl (Eb rfl rfl rfl) ?_;refine zF ?_)|((with_reducible refine gMx ?_);refine Gx rfl (vW rfl rfl rfl) ?_;refine zF ?_)|(refine ym ?_;clear hS;intro w' hS)|(refine ys ?_;clear hS;intro w' hS)|(refine ye ?_;clear hS;intro _ w' hS)|(refine yf ?_;clear hS;intro _ w' hS))
 (refine yj ?_;refine bK ⟨_,by exact bH (r1:=.cell 6 27) zk (by exact rX hS rfl zd),?_⟩ rfl)
 exact⟨rfl,hS.bM⟩
theorem ai3 (x y n:Int) (w:World):Calls Tryd.prog 71 #[.agg #[.int .i64 x,.int .i64 y],.int .i64 n,.bool false] w fun e w'=>e=.returned (.agg #[.int .i64 n,.int .i64 n])/\Kp w w':=by
 have hS:=St.start w (fun _=>none) (fun _ _ h=>nomatch h);go_enter Tryd.func71,Tryd.ntmps71
 go_wp2_with (first|(refine ys ?_;clear hS;intro w' hS)|(refine ye ?_;clear hS;intro _ w' hS)|(refine yf ?_;clear hS;intro _ w' hS))
 (refine yj ?_;refine bK ⟨_,by exact bH (r1:=.cell 6 27) zk (by exact rX hS rfl zd),?_⟩ rfl)
 exact⟨rfl,hS.bM⟩
theorem aix (f:List Int->Int) (A:List (List Int)) (i:Nat) (w:World):Calls Tryd.prog 71 #[.agg #[.int .i64 (ain f A i).1,.int .i64 (ain f A i).2],.int .i64 (f (A.getD i [])),.bool (decide (0<i))] w fun e w'=>e=.returned (.agg #[.int .i64 (ain f A (i+1)).1,.int .i64 (ain f A (i+1)).2])/\Kp w w':=by
 rw[ain];by_cases h:i=0
 ·subst h;rw[if_pos rfl];exact ai3 _ _ _ w
 ·rw[if_neg h,decide_eq_true zw];exact aji _ _ _ w
end Go.Proofs.YtjjmefieegcddaaDoor
namespace Go.Proofs.YtjjmefieegcddaaDoor
open Go.RowKit Go.Wg Go.Mm Go.Wk
open Go Go.Sr Go.Ph Go.Tm Go.Conc
variable {w w0:World} {V:View}
noncomputable def B17:Code:=match Tryd.f17.body with|some c=>c|none=>.skip
noncomputable def aj7:Code:=match B17 with | .seq _ (.seq _ (.seq _ (.seq _ (.seq _ r))))=>r|_=>.skip
noncomputable def ajn:Code:=match aj7 with | .seq _ r=>r|_=>.skip
noncomputable def ajf:Code:=match ajn with | .seq _ r=>r|_=>.skip
noncomputable def aja:Code:=match ajf with | .seq _ r=>r|_=>.skip
noncomputable def ai8:Code:=match aja with | .seq _ r=>r|_=>.skip
noncomputable def ajM:Code:=match ai8 with | .seq _ (.seq _ r)=>r|_=>.skip
noncomputable def ajw:Array Oper:=match ajM with | .seq (.region _ o _) _=>o|_=>#[]
noncomputable def ajx:Code:=match ajM with | .seq _ r=>r|_=>.skip
noncomputable def ajt:Array Oper:=match ajx with | .seq (.region _ o _) _=>o|_=>#[]
noncomputable def ajN:Code:=match ajx with | .seq _ r=>r|_=>.skip
noncomputable def ajg:Array Oper:=match ajN with | .seq (.region _ o _) _=>o|_=>#[]
noncomputable def ajE (l:List Nat):List Item:=[.inRegion ajw l,.code ajx]
noncomputable def ajF (l:List Nat):List Item:=[.inRegion ajt l,.code ajN]
structure ajs (V:View) (k:Wk) (v4 v5:Value) (A:List (List Int)):Prop where
 a:VLL V v4 A
 l:VLL V v5 (A.map (ads k))
 t:∀ i,i<A.length->Truth k (A.getD i [])
 len:A.length<=2401
end Go.Proofs.YtjjmefieegcddaaDoor
namespace Go.Wg
open Go Go.Mm Go.Proofs.YtjjmefieegcddaaDoor
end Go.Wg
namespace Go.Proofs.YtjjmefieegcddaaDoor
open Go.RowKit Go.Wg Go.Mm
variable {w:World} {V:View} {w0:World} {L:List dF}
theorem aav {w0:World} {X:List Nat} {L:List dF} {vv rv:Value} {k:Wk} {R:Ending->World->Prop} {v a b e:Int} (hS:St w0 X V L w) (hB:Bs V) (hk:iJ V vv rv k) (hv:aaG k v=((a,b),e))
  (h:∀ w',St w0 X V L w'->R (.returned (.tuple #[.agg #[.int .i64 a,.int .i64 b],.int .i64 e])) w'):Calls Tryd.prog 63 #[.agg #[vv,rv],.int .i64 v] w R:=by
 have hc:=ac6 vv rv k hk hB.gv hS.view v;rw[hv]at hc;exact aH hS ⟨_,hc,h⟩
end Go.Proofs.YtjjmefieegcddaaDoor
namespace Go.Proofs.YtjjmefieegcddaaDoor
open Go.RowKit Go.Wg Go.Mm Go.Wk
open Go Go.Sr Go.Ph Go.Tm Go.Conc
variable {w w0:World} {V:View}
end Go.Proofs.YtjjmefieegcddaaDoor
namespace Go.Wg
open Go Go.Mm Go.Proofs.YtjjmefieegcddaaDoor
variable {c i j:Nat} {G:List Nat}
def aeX (σ:Nat->Nat) (r:je):je:=⟨(σ r.vessel.toNat:Nat),r.scale,r.shown,r.err⟩
def ae7 (σ:Nat->Nat) (v:nN):nN:=⟨if v.from_<0 then v.from_ else(σ v.from_.toNat:Nat),v.room,v.lo,v.hi⟩
structure ail (k x:Wk) (g σ:Nat->Nat):Prop where
 n:x.n=k.n
 lt:∀ i,i<k.n->σ i<k.n
 gl:∀ q,q<k.n->g q<k.n
 sg:∀ q,q<k.n->σ (g q)=q
 gs:∀ i,i<k.n->g (σ i)=i
 ves:∀ i,i<k.n->x.v (σ i)=ae7 σ (k.v i)
 rdg:x.rdg=k.rdg.map (aeX σ)
 up:∀ i,i<k.n->0<=(k.v i).from_->σ (k.v i).from_.toNat<σ i
theorem afm (w:Nat->Nat) (l:List Nat):(((l.map w).sum:Nat):Int)=(l.map fun x=>(w x:Int)).sum:=by
 induction l with
 |nil=>rfl
 |cons a l ih=>simp only[List.map_cons,List.sum_cons];omega
variable {k x:Wk} {g σ:Nat->Nat}
theorem ail.inj (h:ail k x g σ) (hi:i<k.n) (hj:j<k.n) (e:σ i=σ j):i=j:=by
 have:=h.gs i hi;rw[e,h.gs j hj]at this;exact this.symm
theorem ail.sum (h:ail k x g σ) (o:Nat->Int):((List.range k.n).map o).sum=((List.range k.n).map fun i=>o (σ i)).sum:=by
 have e1:∀ i∈List.range k.n,o (σ i)=((List.range k.n).map fun q=>if q=σ i then o q else 0).sum:=fun i hi=>by
  rw[abH (x:=σ i) List.nodup_range (List.mem_range.2 (h.lt i (List.mem_range.1 hi))) fun y _ hy=>if_neg hy,if_pos rfl]
 rw[List.map_congr_left e1,ab8];congr 1;refine List.map_congr_left fun q hq=>?_
 have hq':=List.mem_range.1 hq;rw[abH (x:=g q) List.nodup_range (List.mem_range.2 (h.gl q hq')) fun y hy hyx=>if_neg fun e=>hyx ?_,if_pos (h.sg q hq').symm];rw[e,h.gs y (List.mem_range.1 hy)]
theorem ail.ae1 (h:ail k x g σ) (hok:k.Ok) (hi:i<k.n) (hj:j<k.n):(x.v (σ j)).from_=(σ i:Nat)↔(k.v j).from_=(i:Int):=by
 rw[h.ves j hj];unfold ae7;dsimp only;have h1:=(hok.ves j hj).2.1;by_cases hn:(k.v j).from_<0
 ·rw[if_pos hn];omega
 ·rw [if_neg hn];constructor
  ·intro e;have:=h.inj (i:=(k.v j).from_.toNat) (j:=i) (by omega) hi (by omega);omega
  ·intro e;rw[e,Int.toNat_natCast]
theorem ail.afd (h:ail k x g σ) (hok:k.Ok) (hi:i<k.n):x.fills (σ i)=[]↔k.fills i=[]:=by
 rw[List.eq_nil_iff_forall_not_mem,List.eq_nil_iff_forall_not_mem];constructor
 ·intro hx j hj;obtain⟨h1,h2⟩:=gK.1 hj;exact hx (σ j) (gK.2 ⟨by rw[h.n];exact h.lt j h1,(h.ae1 hok hi h1).2 h2⟩)
 ·intro hx q hq;obtain⟨h1,h2⟩:=gK.1 hq;rw[h.n]at h1;rw[<- h.sg q h1]at h2;exact hx (g q) (gK.2 ⟨h.gl q h1,(h.ae1 hok hi (h.gl q h1)).1 h2⟩)
theorem ail.aff (h:ail k x g σ) (hok:k.Ok) (hi:i<k.n) (u:Nat->Nat):((x.fills (σ i)).map u).sum=((k.fills i).map fun j=>u (σ j)).sum:=by
 have e:(((x.fills (σ i)).map u).sum:Int)=(((k.fills i).map fun j=>u (σ j)).sum:Nat):=by
  rw[afm,afm];unfold Wk.fills;rw[aaU,aaU,h.n,h.sum];congr 1;refine List.map_congr_left fun j hj=>?_
  have:=h.ae1 hok hi (List.mem_range.1 hj);by_cases c:(k.v j).from_=(i:Int)
  ·rw[if_pos (by simpa using this.2 c),if_pos (by simpa using c)]
  ·rw[if_neg (by simpa using fun e=>c (this.1 e)),if_neg (by simpa using c)]
 omega
theorem ail.ok (h:ail k x g σ) (hok:k.Ok):x.Ok:=by
 have hp:=hok.pos;refine⟨by rw[h.n];exact hp,by rw[h.n];exact hok.le,fun q hq=>?_,?_,fun q hq=>?_⟩
 ·rw [h.n] at hq;have hg:=h.gl q hq;have e:=h.ves (g q) hg;rw [h.sg q hq] at e;rw [e];obtain ⟨o1,o2,o3⟩:=hok.ves (g q) hg;have hu:=h.up (g q) hg;rw [h.sg q hq] at hu;unfold ae7;refine ⟨?_,?_,o3⟩
  ·show -1<=(if _ then _ else _);split
   ·omega
   ·exact Int.le_trans (by decide) (Int.natCast_nonneg _)
  ·show (if _ then _ else _) < (q:Int);split
   ·omega
   ·have:=hu (by omega);omega
 ·rw[h.rdg,List.length_map];exact hok.rdl
 ·rw [h.rdg,List.length_map] at hq;have hr:=hok.rdg q hq;have e:x.rdg.getD q default=aeX σ (k.rdg.getD q default):=by
   rw[h.rdg];simp[List.getD_eq_getElem?_getD,List.getElem?_eq_getElem hq]
  rw[e,h.n];obtain⟨r1,r2,r3⟩:=hr;have:=h.lt (k.rdg.getD q default).vessel.toNat (by omega);refine⟨?_,?_,r3⟩
  ·show(0:Int)<=(σ _:Nat);omega
  ·show((σ _:Nat):Int)<_;omega
theorem ail.fit (h:ail k x g σ) (hok:k.Ok) (hi:i<k.n) (u:Nat->Nat):Fit x (aN x aC) u (σ i)↔Fit k (aN k aC) (fun j=>u (σ j)) i:=by
 have hx:=h.ok hok;have hxi:σ i<x.n:=by rw[h.n];exact h.lt i hi
 have e1:(aN x aC).aK (σ i)=(aN k aC).aK i:=by
  rw[Dh hx.le (yF hx) aC hxi,Dh hok.le (yF hok) aC hi,h.ves i hi,h.rdg,List.filter_map,RZ _ _ (aeX σ) fun r=>⟨rfl,rfl⟩];congr 1;refine List.filter_congr fun r hr=>?_
  have hrv:=yF hok r hr;show(!aC (aeX σ r) && ((σ r.vessel.toNat:Nat):Int).toNat == σ i)=_;rw[Int.toNat_natCast,Bool.eq_iff_iff];simp only[aC,Bool.not_false,Bool.true_and,beq_iff_eq];exact⟨fun e=>h.inj (by omega) hi e,fun e=>by rw[e]⟩
 have e2:(aN x aC).aP (σ i)=(aN k aC).aP i:=by
  rw[rW x hx,rW k hok,if_pos hxi,if_pos hi,h.ves i hi];rfl
 unfold Fit;rw[e1,e2,h.aff hok hi];have:=h.afd hok hi;constructor
 ·rintro ⟨a,b⟩;exact⟨a,fun hn=>b fun e=>hn (this.1 e)⟩
 ·rintro ⟨a,b⟩;exact⟨a,fun hn=>b fun e=>hn (this.2 e)⟩
theorem ail.tru (h:ail k x g σ) (hok:k.Ok) (u:Nat->Nat):Hu x (aN x aC) u↔Hu k (aN k aC) fun j=>u (σ j):=by
 constructor
 ·intro ht i hi;exact(h.fit hok hi u).1 (ht _ (by rw[h.n];exact h.lt i hi))
 ·intro ht q hq;rw [h.n] at hq;have:=(h.fit hok (h.gl q hq) u).2 (ht _ (h.gl q hq))
  rwa [h.sg q hq]at this
theorem ail.ac5 (h:ail k x g σ) (hok:k.Ok) (hi:i<k.n) (u:Nat->Nat) (st:Bool):ac5 x u st (σ i)=Go.Wg.ac5 k (fun j=>u (σ j)) st i:=by
 unfold Go.Wg.ac5;rw[h.aff hok hi];have:=h.afd hok hi;by_cases c:k.fills i=[]
 ·rw[if_pos c,if_pos (this.2 c)]
 ·rw[if_neg c,if_neg fun e=>c (this.1 e)]
theorem ail.aaw (h:ail k x g σ) (hok:k.Ok) (u:Nat->Nat) (st:Bool):aaw x u st=Go.Wg.aaw k (fun j=>u (σ j)) st:=by
 unfold Go.Wg.aaw;rw[h.n,h.sum];congr 1;exact List.map_congr_left fun i hi=>h.ac5 hok (List.mem_range.1 hi) u st
theorem ail.back (h:ail k x g σ) (hok:k.Ok) {w:Nat->Nat} (ht:Hu k (aN k aC) w):Hu x (aN x aC) fun q=>w (g q) :=
 (h.tru hok _).2 fun i hi=>(ht i hi).congr (by simp only[h.gs i hi]) fun y hy=>by simp only[h.gs y (gK.1 hy).1]
theorem ail.can (h:ail k x g σ) (hok:k.Ok):can x (aN x aC)=Go.Wg.can k (aN k aC):=by
 rw[Bool.eq_iff_iff,QS (h.ok hok) (gG _ _),QS hok (gG _ _)];exact⟨fun⟨u,hu⟩=>⟨_,(h.tru hok u).1 hu⟩,fun⟨w,hw⟩=>⟨_,h.back hok hw⟩⟩
theorem afg (h:ail k x g σ) (w:Nat->Nat) (hj:j<k.n) (st:Bool):ac5 k (fun j=>w (g (σ j))) st j=ac5 k w st j:=ab1 st (by simp only[h.gs j hj]) fun y hy=>by simp only[h.gs y (gK.1 hy).1]
theorem ail.loss (h:ail k x g σ) (hok:k.Ok) {w0:Nat->Nat} (h0:Hu k (aN k aC) w0) {v:Nat} (hv:v<k.n):aal x (aN x aC) (σ v)=aal k (aN k aC) v :=
 (ab6 (h.ok hok) (by rw[h.n];exact h.lt v hv) (h.back hok h0)).eq (ab6 hok hv h0) fun y=>⟨fun⟨u,hu,hy⟩=>⟨_,(h.tru hok u).1 hu,by rw[hy,h.ac5 hok hv]⟩,fun⟨w,hw,hy⟩=>⟨_,h.back hok hw,by rw[hy,h.ac5 hok hv,afg h w hv]⟩⟩
theorem aeV:∀ (l m:List Nat),l.Nodup->(∀ y∈l,y∈m)->l.length<=m.length
 | [],m,_,_=>by simp
 |a::l,m,hl,hs=>by
  obtain⟨h1,h2⟩:=List.nodup_cons.1 hl;have ha:=hs a (by simp);have h3:=aeV l (m.erase a) h2 fun y hy=>(List.mem_erase_of_ne (fun e:y=a=>h1 (e ▸ hy))).2 (hs y (by simp[hy]))
  rw[List.length_erase_of_mem ha]at h3;have:=List.length_pos_of_mem ha;simp only[List.length_cons];omega
theorem afz {l:List Nat} {n:Nat} (hl:l.Nodup) (hs:∀ y∈l,y<n) (hn:n<=l.length) (hi:i<n):i∈l:=by
 refine Decidable.byContradiction fun h=>?_
 have:=aeV (i::l) (List.range n) (List.nodup_cons.2 ⟨h,hl⟩) fun y hy=>by
  rcases List.mem_cons.1 hy with rfl|hy
  ·exact List.mem_range.2 hi
  ·exact List.mem_range.2 (hs y hy)
 simp only[List.length_cons,List.length_range]at this;omega
theorem aft {k:Wk} (hok:k.Ok) {l:List Nat} (hn:l.length<k.n):∃ i,i<k.n/\i ∉ l/\((k.v i).from_<0\/(k.v i).from_.toNat∈l):=by
 have hex:∃ i,i<k.n/\i ∉ l:=by
  refine Decidable.byContradiction fun h=>?_
  have:=aeV (List.range k.n) l List.nodup_range fun y hy=>Decidable.byContradiction fun hy'=>h ⟨y,List.mem_range.1 hy,hy'⟩
  rw[List.length_range]at this;omega
 obtain⟨i,hi,hil⟩:=hex
 induction i using Nat.strongRecOn with
 | ind i ih =>
  by_cases hf:(k.v i).from_<0
  ·exact⟨i,hi,hil,.inl hf⟩
  ·have h2:=(hok.ves i hi).2.1;by_cases hm:(k.v i).from_.toNat∈l
   ·exact⟨i,hi,hil,.inr hm⟩
   ·exact ih _ (by omega) (by omega) hm
def pos (G:List Nat) (i:Nat):Nat:=G.idxOf i
structure Ord (k:Wk) (G:List Nat):Prop where
 nd:G.Nodup
 lt:∀ i∈G,i<k.n
 up:∀ i∈G,0<=(k.v i).from_->(k.v i).from_.toNat∈G/\pos G (k.v i).from_.toNat<pos G i
def aeQ (k:Wk) (G:List Nat) (i:Nat):Bool:=decide (i ∉ G) && (decide ((k.v i).from_<0) || decide ((k.v i).from_.toNat∈G))
def aeK (k:Wk) (G:List Nat) (m:Nat):List Int:=((List.range m).filter (aeQ k G)).map fun i:Nat=>(i:Int)
theorem aeY (c:Nat) (h:i∈G):pos (G ++ [c]) i=pos G i:=by
 unfold pos;rw[List.idxOf_append,if_pos h]
theorem afu (h:c ∉ G):pos (G ++ [c]) c=G.length:=by
 unfold pos;rw[List.idxOf_append,if_neg h];simp
theorem aeN {k:Wk}  :aeQ k G c=true↔c ∉ G/\((k.v c).from_<0\/(k.v c).from_.toNat∈G):=by
 simp[aeQ]
theorem Ord.le {k:Wk} (h:Ord k G):G.length<=k.n:=by
 have:=aeV G (List.range k.n) h.nd fun y hy=>List.mem_range.2 (h.lt y hy)
 rwa [List.length_range]at this
theorem Ord.free {k:Wk} (hok:k.Ok) (hn:G.length<k.n):0<(aeK k G k.n).length:=by
 obtain⟨i,h1,h2,h3⟩:=aft hok hn;unfold aeK;refine List.length_pos_iff.2 (List.ne_nil_of_mem (List.mem_map.2 ⟨i,List.mem_filter.2 ⟨List.mem_range.2 h1,aeN.2 ⟨h2,h3⟩⟩,rfl⟩))
theorem Ord.nil (k:Wk):Ord k []:=⟨List.nodup_nil,(fun i h=>nomatch h),fun i h=>nomatch h⟩
theorem Ord.step {k:Wk} (h:Ord k G) (hc:c<k.n) (hf:aeQ k G c=true):Ord k (G ++ [c]):=by
 obtain⟨h1,h2⟩:=aeN.1 hf;refine⟨?_,fun i hi=>?_,fun i hi h0=>?_⟩
 ·rw[List.nodup_append];exact⟨h.nd,by simp,fun a ha b hb=>by
   rw[List.mem_singleton]at hb;subst hb;exact fun e=>h1 (e ▸ ha)⟩
 ·rcases List.mem_append.1 hi with hi | hi
  ·exact h.lt i hi
  ·rw[List.mem_singleton]at hi;subst hi;exact hc
 ·rcases List.mem_append.1 hi with hi | hi
  ·obtain⟨a,b⟩:=h.up i hi h0;exact⟨by simp[a],by rw[aeY c a,aeY c hi];exact b⟩
  ·rw[List.mem_singleton]at hi;subst hi;have h3:(k.v i).from_.toNat∈G:=h2.resolve_left (by omega);exact⟨by simp[h3],by rw[aeY i h3,afu h1];exact List.idxOf_lt_length_of_mem h3⟩
theorem Ord.all {k:Wk} (h:Ord k G) (hn:G.length=k.n) (hi:i<k.n):i∈G:=afz h.nd h.lt (by omega) hi
end Go.Wg
namespace Go.Wg
open Go Go.Mm Go.Proofs.YtjjmefieegcddaaDoor
variable {k:Wk} {v:Nat}
theorem aeU (hok:k.Ok) (hv:v<k.n):iw k (v:Int)=if can k (aN k aC) then(aO k (aN k aC) v,0) else((0,0),9):=by
 unfold iw can;rw[if_pos (G7 hok [(v:Int)] fun n hn=>by rw[List.mem_singleton]at hn;omega),Int.toNat_natCast]
theorem ae0 (hok:k.Ok) (hv:v<k.n):aaG k (v:Int)=if can k (aN k aC) then(aal k (aN k aC) v,0) else((0,0),9):=by
 unfold aaG can;rw[if_pos (G7 hok [(v:Int)] fun n hn=>by rw[List.mem_singleton]at hn;omega),Int.toNat_natCast]
end Go.Wg
namespace Go.Proofs.YtjjmefieegcddaaDoor
open Go.RowKit Go.Wg Go.Mm Go.Wk
open Go Go.Sr Go.Ph Go.Tm Go.Conc
variable {w w0:World} {V:View}
end Go.Proofs.YtjjmefieegcddaaDoor
namespace Go.Wg
open Go Go.Mm Go.Proofs.YtjjmefieegcddaaDoor
theorem ajq {k:Wk} (hok:k.Ok) (hr:∀ i,i<k.n->(k.v i).room<=6) (hn:jv k≠[]) {v:Nat} (hv:v<k.n):∃ a1 a2 c1 c2,iw k (v:Int)=((a1,a2),0)/\aaG k (v:Int)=((c1,c2),0)/\ain (fun l=>l.getD v 0) (jv k) (jv k).length=(a1,a2)/\ain (fun l=>(ads k l).getD v 0) (jv k) (jv k).length=(c1,c2) /\
  0<=a1/\a1<=a2/\a2<=6/\∀ y:Nat,a1<=y->(y:Int)<=a2->(ais (jv k) v (jv k).length).getD y false=true:=by
 have hc:=(ahy hok hr).2 hn;obtain⟨w0,h0⟩:=(QS hok (gG _ _)).1 hc;have hW:=abA hok hv h0;have hLs:=ab6 hok hv h0;have e1:=ai1 hok hr hn (f:=fun l=>l.getD v 0) hW fun w _=>listOf_at w hv
 have e2:=ai1 hok hr hn (f:=fun l=>(ads k l).getD v 0) hLs fun w _=>by
  have:(ads k (listOf k w)).getD v 0=adx k (listOf k w) v:=by simp[ads,List.getD_eq_getElem?_getD,hv]
  rw[this,aec w hv]
 refine⟨(aO k (aN k aC) v).1,(aO k (aN k aC) v).2,(aal k (aN k aC) v).1,(aal k (aN k aC) v).2,?_,?_,e1,e2,?_,?_,?_,fun y h1 h2=>(ajo hok hr hn hv h1 h2).2⟩
 ·rw[aeU hok hv,hc,if_pos rfl]
 ·rw[ae0 hok hv,hc,if_pos rfl]
 ·obtain⟨w,_,h⟩:=hW.lo;omega
 ·have:=hW.all _ ⟨w0,h0,rfl⟩;omega
 ·obtain⟨w,hw,h⟩:=hW.hi;have h1:=((aeD hok hw).room v hv).2;rw[listOf_at w hv]at h1;have:=hr v hv;omega
def ait (l:List Bool):List Value:=l.map .bool
theorem aiD (l:List Bool):(ait l).length=l.length:=by simp[ait]
theorem ai6 (l:List Bool) (i:Nat) (b:Bool):(ait l).set i (.bool b)=ait (l.set i b):=by simp[ait]
theorem ajj {l:List Bool} {i:Nat} (h:i<l.length):(ait l)[i]? = some (.bool (l.getD i false)):=by
 simp[ait,List.getD_eq_getElem?_getD,List.getElem?_eq_getElem h]
end Go.Wg
namespace Go.Proofs.YtjjmefieegcddaaDoor
open Go.RowKit Go.Wg Go.Mm Go.Wk
open Go Go.Sr Go.Ph Go.Tm Go.Conc
variable {w w0:World} {V:View}
set_option maxRecDepth 40000 in
theorem aiO {k:Wk} {vv rv lv v4 v5:Value} {b3:Nat} {A:List (List Int)} (hB:Bs V) (hk:iJ V vv rv k) (hok:k.Ok) (hr3:V.Range b3 0 [vv,rv]) (hA:ajs V k v4 v5 A) (hsm:∀ i,i<A.length->∀ v,v<k.n->(A.getD i []).getD v 0<=6)
  (hval:∀ v,v < k.n->∃ a1 a2 c1 c2,iw k (v:Int)=((a1,a2),0)/\aaG k (v:Int)=((c1,c2),0)/\ain (fun l=>l.getD v 0) A A.length=(a1,a2)/\ain (fun l=>(ads k l).getD v 0) A A.length=(c1,c2) /\
   0<=a1/\a1<=a2/\a2<=6/\∀ y:Nat,a1<=y->(y:Int)<=a2->(ais A v A.length).getD y false=true)
  (htail:∀ (w:World) (u1 u2 u6 u7 u8 u9 u10 u11 u12 u13 u14 u15 u16 u17 u18 u19 u20 u21 u22 u23 u24 u25 u26 u27 u28 u29 u30 u31 u32 u33 u34 u35 u36 u37 u38 u39 u40 u41 u42 u43 u44 u45 u46 u47 u48 u49 u50 u51 u52 u53 u54 u55 u56 u57 u58 u59 u60 u61 u62 u63 u64 u65 u66 u67 u68 u69 u70 u71 u72 u73 u74 u75 u76 u77 u78 u79 u80 u81 u82 u83 u84 u85 u86 u87 u88 u89 u90 u91 u92 u93 u94 u95 u96 u97 u98 u99 u100 u101 u102 u103 u104 u105 u106 u107 u108 u109 u110 u111 u112 u113 u114 u115 u116 u117 u118 u119 u120 u121 u122 u123 u124 u125 u126 u127 u128 u129 u130 u131 u132 u133 u134 u135 u136 u137 u138 u139 u140 u141 u142 u143 u144 u145 u146 u147 u148 u149 u150 u151 u152 u153 u154 u155 u156 u157 u158 u159 u160 u161 u162 u163 u164 u165 u166 u167 u168 u169 u170 u171 u172 u173 u174 u175 u176 u177 u178 u179 u180 u181 u182 u183 u184 u185 u186 u187 u188 u189 u190 u191 u192 u193 u194 u195 u196 u197 u198 u199 u200 u201 u202 u203 u204 u205 u206 u207 u208 u209 u210 u211 u212 u213 u214 u215:Value),St w0 [] V [] w->RB 17 (fun r w'=>r=.returned (.bool true)/\Kp w0 w') [.code ai8] ⟨#[lv,u1,u2,.pointer (some ⟨b3,0,none⟩),v4,v5,u6,u7,u8,u9,u10,u11,u12,u13,u14,u15,u16,u17,u18,u19,u20,u21,u22,u23,u24,u25,u26,u27,u28,u29,u30,u31,u32,u33,u34,u35,u36,u37,u38,u39,u40,u41,u42,u43,u44,u45,u46,u47,u48,u49,u50,u51,u52,u53,u54,u55,u56,u57,u58,u59,u60,u61,u62,u63,u64,u65,u66,u67,u68,u69,u70,u71,u72,u73,u74,u75,u76,u77,u78,u79,u80,u81,u82,u83,u84,u85,u86,u87,u88,u89,u90,u91,u92,u93,u94,u95,u96,u97,u98,u99,u100,u101,u102,u103,u104,u105,u106,u107,u108,u109,u110,u111,u112,u113,u114,u115,u116,u117,u118,u119,u120,u121,u122,u123,u124,u125,u126,u127,u128,u129,u130,u131,u132,u133,u134,u135,u136,u137,u138,u139,u140,u141,u142,u143,u144,u145,u146,u147,u148,u149,u150,u151,u152,u153,u154,u155,u156,u157,u158,u159,u160,u161,u162,u163,u164,u165,u166,u167,u168,u169,u170,u171,u172,u173,u174,u175,u176,u177,u178,u179,u180,u181,u182,u183,u184,u185,u186,u187,u188,u189,u190,u191,u192,u193,u194,u195,u196,u197,u198,u199,u200,u201,u202,u203,u204,u205,u206,u207,u208,u209,u210,u211,u212,u213,u214,u215],[]⟩ w)
  (w:World) (hS:St w0 [] V [] w) (u1 u2 u6 u7 u8 u9 u10 u11 u12 u13 u14 u15 u16 u17 u18 u19 u20 u21 u22 u23 u24 u25 u26 u27 u28 u29 u30 u31 u32 u33 u34 u35 u36 u37 u38 u39 u40 u41 u42 u43 u44 u45 u46 u47 u48 u49 u50 u51 u52 u53 u54 u55 u56 u57 u58 u59 u60 u61 u62 u63 u64 u65 u66 u67 u68 u69 u70 u71 u72 u73 u74 u75 u76 u77 u78 u79 u80 u81 u82 u83 u84 u85 u86 u87 u88 u89 u90 u91 u92 u93 u94 u95 u96 u97 u98 u99 u100 u101 u102 u103 u104 u105 u106 u107 u108 u109 u110 u111 u112 u113 u114 u115 u116 u117 u118 u119 u120 u121 u122 u123 u124 u125 u126 u127 u128 u129 u130 u131 u132 u133 u134 u135 u136 u137 u138 u139 u140 u141 u142 u143 u144 u145 u146 u147 u148 u149 u150 u151 u152 u153 u154 u155 u156 u157 u158 u159 u160 u161 u162 u163 u164 u165 u166 u167 u168 u169 u170 u171 u172 u173 u174 u175 u176 u177 u178 u179 u180 u181 u182 u183 u184 u185 u186 u187 u188 u189 u190 u191 u192 u193 u194 u195 u196 u197 u198 u199 u200 u201 u202 u203 u204 u205 u206 u207 u208 u209 u210 u211 u212 u213 u214 u215:Value) :
  RB 17 (fun r w'=>r=.returned (.bool true)/\Kp w0 w') [.code aja] ⟨#[lv,u1,u2,.pointer (some ⟨b3,0,none⟩),v4,v5,u6,u7,u8,u9,u10,u11,u12,u13,u14,u15,u16,u17,u18,u19,u20,u21,u22,u23,u24,u25,u26,u27,u28,u29,u30,u31,u32,u33,u34,u35,u36,u37,u38,u39,u40,u41,u42,u43,u44,u45,u46,u47,u48,u49,u50,u51,u52,u53,u54,u55,u56,u57,u58,u59,u60,u61,u62,u63,u64,u65,u66,u67,u68,u69,u70,u71,u72,u73,u74,u75,u76,u77,u78,u79,u80,u81,u82,u83,u84,u85,u86,u87,u88,u89,u90,u91,u92,u93,u94,u95,u96,u97,u98,u99,u100,u101,u102,u103,u104,u105,u106,u107,u108,u109,u110,u111,u112,u113,u114,u115,u116,u117,u118,u119,u120,u121,u122,u123,u124,u125,u126,u127,u128,u129,u130,u131,u132,u133,u134,u135,u136,u137,u138,u139,u140,u141,u142,u143,u144,u145,u146,u147,u148,u149,u150,u151,u152,u153,u154,u155,u156,u157,u158,u159,u160,u161,u162,u163,u164,u165,u166,u167,u168,u169,u170,u171,u172,u173,u174,u175,u176,u177,u178,u179,u180,u181,u182,u183,u184,u185,u186,u187,u188,u189,u190,u191,u192,u193,u194,u195,u196,u197,u198,u199,u200,u201,u202,u203,u204,u205,u206,u207,u208,u209,u210,u211,u212,u213,u214,u215],[]⟩ w:=by
 obtain⟨us,hu1,hu2,hu3⟩:=hA.a.is;obtain⟨vs,hl1,hl2,hl3⟩:=hA.l.is;obtain⟨oa,ocap,hov,hoc,hom,hoe⟩:=hu2.is;obtain⟨qa,qcap,hqv,hqc,hqm,hqe⟩:=hl2.is;subst hov;subst hqv;have hlen:=hA.len;have hn6:=hok.le;have hel:∀ i,i<A.length->VI V (us.getD i undef) (A.getD i [])/\VI V (vs.getD i undef) (ads k (A.getD i []))/\(A.getD i []).length=k.n:=fun i hi=>by
  have h1:=hl3 i (by rw[List.length_map];exact hi);have h2:(A.map (ads k)).getD i []=ads k (A.getD i []):=by
   simp[List.getD_eq_getElem?_getD,List.getElem?_eq_getElem hi]
  rw[h2]at h1;exact⟨hu3 i hi,h1,(hA.t i hi).len⟩
 have hbd:∀ i,i<A.length->∀ v,v<k.n->0<=(A.getD i []).getD v 0/\(A.getD i []).getD v 0<=6:=fun i hi v hv=>⟨((hA.t i hi).room v hv).1,hsm i hi v hv⟩
 rw[List.length_map]at hqc hqe;have hlm:(A.map (ads k)).length=A.length:=by rw[List.length_map]
 rw[hlm]at htail |-;have hr3':([vv,rv]).length=2:=rfl;obtain⟨va,vcap,hvv,_⟩:=id hk.ves.is;subst hvv;have hc3:V.Cell b3 0 (.slice va k.n vcap):=hr3 0 _ rfl;clear hA hu3 hl3 hu2 hl2 hsm hlm;replace hel:=aj hel;replace hbd:=aj hbd;replace hval:=aj hval;replace htail:=aj htail;refine abr (tgt:=[.code ai8]) zk rfl hS ?_;clear hS;intro w' hS;refine au (aA ?_);go_wp2_with (fail)
 go_loopw [10] (fun iv wr=>∃ v:Nat,v<=k.n/\iv=.int .i64 (v:Int)/\St w0 [] V [] wr) (fun iv _=>k.n-(intOf iv).toNat)
 case atStart=>exact⟨0,by omega,rfl,hS.aG⟩
 case round =>
  clear hS;obtain⟨v,hv,rfl,hS⟩:=hrel;have h0v:(0:Int)<=v:=by omega
  by_cases hvn:v<k.n
  ·have hvn':(v:Int) < k.n:=by omega
   obtain⟨a1,a2,c1,c2,hwE,hlE,hP1,hP2,ha0,ha12,ha2,hmet⟩:=hval.out v hvn;obtain⟨an,han⟩:∃ an:Nat,a1=(an:Int):=⟨a1.toNat,by omega⟩;subst han;have hw1:=fun i w=>aix (fun l=>l.getD v 0) A i w
   have hw2:=fun i w=>aix (fun l=>(ads k l).getD v 0) A i w
   have hz1:ain (fun l=>l.getD v 0) A 0=(0,0):=rfl;have hz2:ain (fun l=>(ads k l).getD v 0) A 0=(0,0):=rfl;have hms:=fun i hi y hy=>aiV A v (i:=i) hi (y:=y) hy
   have hmz:ait (ais A v 0)=List.replicate 7 (.bool false):=by rw[aiU];rfl
   have hml:=fun i=>ai2 A v i
   generalize ain (fun l=>l.getD v 0) A=P1 at hw1 hz1 hP1;generalize ain (fun l=>(ads k l).getD v 0) A=P2 at hw2 hz2 hP2;generalize ais A v=M at hms hmz hml hmet;replace hw1:=aj hw1;replace hw2:=aj hw2;replace hP1:=aj hP1;replace hP2:=aj hP2;replace hmet:=aj hmet;replace hms:=aj hms;replace hml:=aj hml;go_wp2_with (first|(refine yy ?_;clear hS;intro w' hS)|(refine ya 11 ?_;clear hS;intro b11 w' hS)|(refine ya 12 ?_;clear hS;intro b12 w' hS)|(refine aay (n:=7) hS rfl rfl rfl rfl zw ?_;clear hS;intro kb a' hp;(try simp only[fr]at hp);subst hp;intro w' hS))
   go_loopw [14] (fun iv wr=>∃ i:Nat,i<=A.length/\iv=.int .i64 (i:Int)/\St w0 [] V [.blk kb 4 (ait (M i)),.blk b12 27 [.int .i64 (P2 i).1,.int .i64 (P2 i).2],.blk b11 27 [.int .i64 (P1 i).1,.int .i64 (P1 i).2]] wr) (fun iv _=>A.length-(intOf iv).toNat)
   case atStart=>exact⟨0,by omega,rfl,by rw[hz1,hz2,hmz];exact hS⟩
   case round =>
    clear hS;obtain⟨i,hi,rfl,hS⟩:=hrel;have h0:(0:Int)<=i:=by omega
    by_cases hlt:i<A.length
    ·have hlt':(i:Int) < A.length:=by omega
     obtain⟨og,oo,hoa,hor⟩:=hoe zw;subst hoa;obtain⟨qg,qo,hqa,hqr⟩:=hqe zw;subst hqa;have hcell:=hor i hlt 0 _ rfl;have hcel2:=hqr i hlt 0 _ rfl;simp only[Nat.mul_one,Nat.add_zero]at hcell hcel2;obtain⟨hvi,hvl,hll⟩:=hel.out i hlt;obtain⟨hb0,hb6⟩:=hbd.out i hlt v hvn;have hwi1:=hw1.out i;have hwi2:=hw2.out i;have hmi:=hms.out i hlt;have hml0:=hml.out i;generalize us.getD i undef=u at hcell hvi;generalize vs.getD i undef=z at hcel2 hvl;obtain⟨la,lcap,hlv,hlc,hlm,hle⟩:=hvi.is;obtain⟨ma,mcap,hmv,hmc,hmm,hme⟩:=hvl.is;rw[hll]at hlv hlc hle;rw[adA]at hmv hmc hme;subst hlv;subst hmv;obtain⟨lg,lo,hla,hlr⟩:=hle zw;obtain⟨mg,mo,hma,hmr⟩:=hme zw;subst hla;subst hma;have hca:=hlr v hvn 0 _ rfl;have hcb:=hmr v hvn 0 _ rfl;simp only[Nat.mul_one,Nat.add_zero]at hca hcb;generalize (A.getD i []).getD v 0=x at hca hb0 hb6 hwi1 hmi;generalize (ads k (A.getD i [])).getD v 0=y at hcb hwi2;obtain⟨xn,rfl⟩:∃ xn:Nat,x=(xn:Int):=⟨x.toNat,by omega⟩;have hm1:=hmi xn rfl;have hx7:(xn:Int)<7:=by omega
     have hx0:(0:Int)<=xn:=by omega
     generalize hE1:P1 (i+1)=p1 at hwi1;generalize hE2:P2 (i+1)=p2 at hwi2;generalize hE3:M (i+1)=m1 at hm1;generalize P1 i=q1 at hwi1 hS;generalize P2 i=q2 at hwi2 hS;generalize M i=m0 at hm1 hS hml0;obtain⟨p11,p12⟩:=p1;obtain⟨p21,p22⟩:=p2;obtain⟨q11,q12⟩:=q1;obtain⟨q21,q22⟩:=q2;simp only at hwi1 hwi2 hS;have hbl:(ait m0).length=7:=by rw[aiD,hml0]
     clear hor hqr hoe hqe hvi hvl hlr hmr hle hme hmi;replace hwi1:=aj hwi1;replace hwi2:=aj hwi2;replace hE1:=aj hE1;replace hE2:=aj hE2;replace hE3:=aj hE3;replace hm1:=aj hm1;go_wp2_with (fail)
     (refine bF (S:=(St w0 [] V [])) (List.replicate 34 false) rfl zk ?_;replace hS:=St.eY hS;(repeat' (first|((with_reducible refine gHd ?_);(first|(refine aar 0 rfl zk zk (by decide +kernel) rfl rfl (fun _ _ _ h=>nomatch h.1) rfl (St.aG hS) ?_;refine zH ?_)|(refine aar 1 rfl zk zk (by decide +kernel) rfl rfl (fun _ _ _ h=>nomatch h.1) rfl (St.aG hS) ?_;refine zH ?_)|(refine aar 2 rfl zk zk (by decide +kernel) rfl rfl (fun _ _ _ h=>nomatch h.1) rfl (St.aG hS) ?_;refine zH ?_)|(refine dw 3 rfl zk zk (by decide +kernel) (fun _ _ _ _ h=>nomatch h.1) rfl (St.aG hS) ?_;refine⟨_,zp,?_⟩;refine zH ?_)|((refine aax 4 rfl zk zk (by decide +kernel) (fun _ _ _ _ h=>nomatch h.1) rfl (St.aG hS) rfl rfl ?_);refine⟨_,zd,?_⟩;refine zH ?_)|(refine aar 5 rfl zk zk (by decide +kernel) rfl rfl (fun _ _ _ h=>nomatch h.1) rfl (St.aG hS) ?_;refine zH ?_)|(refine dw 6 rfl zk zk (by decide +kernel) (fun _ _ _ _ h=>nomatch h.1) rfl (St.aG hS) ?_;refine⟨_,zp,?_⟩;refine zH ?_)|((refine aax 7 rfl zk zk (by decide +kernel) (fun _ _ _ _ h=>nomatch h.1) rfl (St.aG hS) rfl rfl ?_);refine⟨_,zd,?_⟩;refine zH ?_)|(refine aar 9 rfl zk zk (by decide +kernel) rfl rfl (fun _ _ _ h=>nomatch h.1) rfl (St.aG hS) ?_;refine zH ?_)|(refine aar 10 rfl zk zk (by decide +kernel) rfl rfl (fun _ _ _ h=>nomatch h.1) rfl (St.aG hS) ?_;refine zH ?_)|(refine dw 11 rfl zk zk (by decide +kernel) (fun _ _ _ _ h=>nomatch h.1) rfl (St.aG hS) ?_;refine⟨_,zp,?_⟩;refine zH ?_)|((refine aax 12 rfl zk zk (by decide +kernel) (fun _ _ _ _ h=>nomatch h.1) rfl (St.aG hS) rfl rfl ?_);refine⟨_,zd,?_⟩;refine zH ?_)|(refine aar 13 rfl zk zk (by decide +kernel) rfl rfl (fun _ _ _ h=>nomatch h.1) rfl (St.aG hS) ?_;refine zH ?_)|(refine dw 14 rfl zk zk (by decide +kernel) (fun _ _ _ _ h=>nomatch h.1) rfl (St.aG hS) ?_;refine⟨_,zp,?_⟩;refine zH ?_)|((refine aax 15 rfl zk zk (by decide +kernel) (fun _ _ _ _ h=>nomatch h.1) rfl (St.aG hS) rfl rfl ?_);refine⟨_,zd,?_⟩;refine zH ?_)|(refine aar 16 rfl zk zk (by decide +kernel) rfl rfl (fun _ _ _ h=>nomatch h.1) rfl (St.aG hS) ?_;refine zH ?_)|(refine dw 17 rfl zk zk (by decide +kernel) (fun _ _ _ _ h=>nomatch h.1) rfl (St.aG hS) ?_;refine⟨_,zp,?_⟩;refine zH ?_)|(refine aar 20 rfl zk zk (by decide +kernel) rfl rfl (fun _ _ _ h=>nomatch h.1) rfl (St.aG hS) ?_;refine zH ?_)|(refine aar 21 rfl zk zk (by decide +kernel) rfl rfl (fun _ _ _ h=>nomatch h.1) rfl (St.aG hS) ?_;refine zH ?_)|(refine dw 22 rfl zk zk (by decide +kernel) (fun _ _ _ _ h=>nomatch h.1) rfl (St.aG hS) ?_;refine⟨_,zp,?_⟩;refine zH ?_)|((refine aax 23 rfl zk zk (by decide +kernel) (fun _ _ _ _ h=>nomatch h.1) rfl (St.aG hS) rfl rfl ?_);refine⟨_,zd,?_⟩;refine zH ?_)|(refine aar 24 rfl zk zk (by decide +kernel) rfl rfl (fun _ _ _ h=>nomatch h.1) rfl (St.aG hS) ?_;refine zH ?_)|(refine dw 25 rfl zk zk (by decide +kernel) (fun _ _ _ _ h=>nomatch h.1) rfl (St.aG hS) ?_;refine⟨_,zp,?_⟩;refine zH ?_)|((refine aax 26 rfl zk zk (by decide +kernel) (fun _ _ _ _ h=>nomatch h.1) rfl (St.aG hS) rfl rfl ?_);refine⟨_,zd,?_⟩;refine zH ?_)|(refine aar 27 rfl zk zk (by decide +kernel) rfl rfl (fun _ _ _ h=>nomatch h.1) rfl (St.aG hS) ?_;refine zH ?_)|(refine dw 28 rfl zk zk (by decide +kernel) (fun _ _ _ _ h=>nomatch h.1) rfl (St.aG hS) ?_;refine⟨_,zp,?_⟩;refine zH ?_)|(refine dw 32 rfl zk zk (by decide +kernel) (fun _ _ _ _ h=>nomatch h.1) rfl (St.aG hS) ?_;refine⟨_,zp,?_⟩;refine zH ?_)|(refine YB 8 (by decide +kernel) rfl hS rfl rfl rfl ?_;refine⟨_,zd,?_⟩;clear hS;refine zH ?_;intro w' hS;refine⟨(St.aG hS),?_⟩)|(refine oZ 18 (by decide +kernel) rfl rfl ⟨_,_,zo,?_⟩;refine aH hS ⟨_,hwi1.out _,?_⟩;clear hS;intro w' hS;refine⟨_,rfl,?_⟩;refine zH ?_;refine⟨(St.aG hS),?_⟩)|(refine YB 19 (by decide +kernel) rfl hS rfl rfl rfl ?_;refine⟨_,zd,?_⟩;clear hS;refine zH ?_;intro w' hS;refine⟨(St.aG hS),?_⟩)|(refine oZ 29 (by decide +kernel) rfl rfl ⟨_,_,zo,?_⟩;refine aH hS ⟨_,hwi2.out _,?_⟩;clear hS;intro w' hS;refine⟨_,rfl,?_⟩;refine zH ?_;refine⟨(St.aG hS),?_⟩)|((refine wQ 30 (by decide +kernel) rfl hS rfl  rfl rfl ?_;refine⟨_,zd,?_⟩);clear hS;refine zH ?_;intro w' hS;(try simp only[sE]at hS);refine⟨(St.aG hS),?_⟩)|((refine wQ 31 (by decide +kernel) rfl hS rfl  rfl rfl ?_;refine⟨_,zd,?_⟩);clear hS;refine zH ?_;intro w' hS;(try simp only[sE]at hS);refine⟨(St.aG hS),?_⟩)|((refine jl 33 (by decide +kernel) rfl hS rfl  rfl rfl ?_;refine⟨_,zd,?_⟩);clear hS;refine zH ?_;intro w' hS;(try simp only[sE]at hS);refine⟨(St.aG hS),?_⟩)|refine nP 8 19 (by decide +kernel) ?_ ?_|refine nP 18 19 (by decide +kernel) ?_ ?_|refine wpAnyH_done (by decide +kernel) ?_ _))|((with_reducible refine gWo ?_);(first|(refine WI 8 rfl hS rfl  rfl rfl ?_;refine⟨_,zd,?_⟩;clear hS;refine zH ?_;intro w' hS;refine⟨(St.aG hS),?_⟩)|(refine DZ 18 rfl rfl ⟨_,_,zo,?_⟩;refine aH hS ⟨_,hwi1.out _,?_⟩;clear hS;intro w' hS;refine⟨_,rfl,?_⟩;refine zH ?_;refine⟨(St.aG hS),?_⟩)|(refine WI 19 rfl hS rfl  rfl rfl ?_;refine⟨_,zd,?_⟩;clear hS;refine zH ?_;intro w' hS;refine⟨(St.aG hS),?_⟩))))))
     all_goals (
      simp only[ai6]at hS;rw[hm1.out]at hS;go_wp2_with (fail)
      go_roundw
      case rel=>exact⟨i+1,by omega,by go_num,by rw[hE1.out,hE2.out,hE3.out];exact hS.aG⟩
      case measure=>simp only[intOf];omega)
    ·obtain rfl:i=A.length:=by omega
     rw[hP1.out,hP2.out]at hS;simp only at hS;have hml1:=hml.out A.length;have hbl:(ait (M A.length)).length=7:=by rw[aiD,hml1]
     have hbt:∀ y:Nat,(an:Int)<=y->(y:Int)<=a2->(ait (M A.length))[y]? = some (.bool true):=fun y h1 h2=>by rw[ajj (by rw[hml1];omega),hmet.out y h1 h2]
     generalize ait (M A.length)=m0 at hS hbl hbt;replace hbt:=aj hbt;go_wp2_with (first|(refine ym ?_;clear hS;intro w' hS)|(refine ys ?_;clear hS;intro w' hS)|(refine ye ?_;clear hS;intro _ w' hS)|(go_at_call 54;refine oq hS hB hk hwE ?_;clear hS;intro w' hS)|(go_at_call 63;refine aav hS hB hk hlE ?_;clear hS;intro w' hS))
     go_loopw [19] (fun nv wr=>∃ n:Nat,an<=n/\n<=7/\nv=.int .i64 (n:Int)/\St w0 [] V [.blk kb 4 m0,.blk b11 27 [.int .i64 (an:Int),.int .i64 a2]] wr) (fun nv _=>8-(intOf nv).toNat)
     case atStart=>exact⟨an,by omega,by omega,rfl,hS.aG⟩
     case round =>
      clear hS;obtain⟨n,hn1,hn7,rfl,hS⟩:=hrel;have h0n:(0:Int)<=n:=by omega
      by_cases hna:(n:Int)<=a2
      ·have hb:=hbt.out n zw hna;have hn7':(n:Int) < 7:=by omega
       have hnd:decide ((n:Int)<=a2)=true:=decide_eq_true hna;go_wp2_with (refine yy ?_;clear hS;intro w' hS)
       go_roundw
       case rel=>exact⟨n+1,by omega,by omega,by go_num,hS⟩
       case measure=>simp only[intOf];omega
      ·have hnd:decide ((n:Int)<=a2)=false:=decide_eq_false hna;go_wp2_with (refine yy ?_;clear hS;intro w' hS)
       go_roundw
       case rel=>exact⟨v+1,by omega,by go_num,hS.aG⟩
       case measure=>simp only[intOf];omega
  ·obtain rfl:v=k.n:=by omega
   go_wp2_with (refine yy ?_;clear hS;intro w' hS)
   refine bG (tgt:=[.code ai8]) ?_;exact htail.out _ _ _ _ _ _ _ _ _ _ _ _ _ _ _ _ _ _ _ _ _ _ _ _ _ _ _ _ _ _ _ _ _ _ _ _ _ _ _ _ _ _ _ _ _ _ _ _ _ _ _ _ _ _ _ _ _ _ _ _ _ _ _ _ _ _ _ _ _ _ _ _ _ _ _ _ _ _ _ _ _ _ _ _ _ _ _ _ _ _ _ _ _ _ _ _ _ _ _ _ _ _ _ _ _ _ _ _ _ _ _ _ _ _ _ _ _ _ _ _ _ _ _ _ _ _ _ _ _ _ _ _ _ _ _ _ _ _ _ _ _ _ _ _ _ _ _ _ _ _ _ _ _ _ _ _ _ _ _ _ _ _ _ _ _ _ _ _ _ _ _ _ _ _ _ _ _ _ _ _ _ _ _ _ _ _ _ _ _ _ _ _ _ _ _ _ _ _ _ _ _ _ _ _ _ _ _ _ _ _ _ _ _ hS
end Go.Proofs.YtjjmefieegcddaaDoor
namespace Go.Proofs.YtjjmefieegcddaaDoor
open Go.RowKit Go.Wg Go.Mm Go.Wk
open Go Go.Sr Go.Ph Go.Tm Go.Conc
variable {lv:Value} {l:List Int}
variable {w w0:World} {V:View}
set_option maxRecDepth 40000 in
theorem ajc {k:Wk} {vv rv v4 v5:Value} {b3:Nat} {A:List (List Int)} (hB:Bs V) (hk:iJ V vv rv k) (hok:k.Ok) (hr3:V.Range b3 0 [vv,rv]) (hA:ajs V k v4 v5 A) {x1 x2 y1 y2:Int} (hlo:vX k=((x1,x2),0)) (hsv:adw k=((y1,y2),0))
 (hx:ain (fun l=>(ads k l).sum) A A.length=(x1,x2)) (hy:ain (fun l=>adu k l k.n) A A.length=(y1,y2)) (w:World) (hS:St w0 [] V [] w) (u1 u2 u6 u7 u8 u9 u10 u11 u12 u13 u14 u15 u16 u17 u18 u19 u20 u21 u22 u23 u24 u25 u26 u27 u28 u29 u30 u31 u32 u33 u34 u35 u36 u37 u38 u39 u40 u41 u42 u43 u44 u45 u46 u47 u48 u49 u50 u51 u52 u53 u54 u55 u56 u57 u58 u59 u60 u61 u62 u63 u64 u65 u66 u67 u68 u69 u70 u71 u72 u73 u74 u75 u76 u77 u78 u79 u80 u81 u82 u83 u84 u85 u86 u87 u88 u89 u90 u91 u92 u93 u94 u95 u96 u97 u98 u99 u100 u101 u102 u103 u104 u105 u106 u107 u108 u109 u110 u111 u112 u113 u114 u115 u116 u117 u118 u119 u120 u121 u122 u123 u124 u125 u126 u127 u128 u129 u130 u131 u132 u133 u134 u135 u136 u137 u138 u139 u140 u141 u142 u143 u144 u145 u146 u147 u148 u149 u150 u151 u152 u153 u154 u155 u156 u157 u158 u159 u160 u161 u162 u163 u164 u165 u166 u167 u168 u169 u170 u171 u172 u173 u174 u175 u176 u177 u178 u179 u180 u181 u182 u183 u184 u185 u186 u187 u188 u189 u190 u191 u192 u193 u194 u195 u196 u197 u198 u199 u200 u201 u202 u203 u204 u205 u206 u207 u208 u209 u210 u211 u212 u213 u214 u215:Value) :
  RB 17 (fun r w'=>r=.returned (.bool true)/\Kp w0 w') [.code ai8] ⟨#[lv,u1,u2,.pointer (some ⟨b3,0,none⟩),v4,v5,u6,u7,u8,u9,u10,u11,u12,u13,u14,u15,u16,u17,u18,u19,u20,u21,u22,u23,u24,u25,u26,u27,u28,u29,u30,u31,u32,u33,u34,u35,u36,u37,u38,u39,u40,u41,u42,u43,u44,u45,u46,u47,u48,u49,u50,u51,u52,u53,u54,u55,u56,u57,u58,u59,u60,u61,u62,u63,u64,u65,u66,u67,u68,u69,u70,u71,u72,u73,u74,u75,u76,u77,u78,u79,u80,u81,u82,u83,u84,u85,u86,u87,u88,u89,u90,u91,u92,u93,u94,u95,u96,u97,u98,u99,u100,u101,u102,u103,u104,u105,u106,u107,u108,u109,u110,u111,u112,u113,u114,u115,u116,u117,u118,u119,u120,u121,u122,u123,u124,u125,u126,u127,u128,u129,u130,u131,u132,u133,u134,u135,u136,u137,u138,u139,u140,u141,u142,u143,u144,u145,u146,u147,u148,u149,u150,u151,u152,u153,u154,u155,u156,u157,u158,u159,u160,u161,u162,u163,u164,u165,u166,u167,u168,u169,u170,u171,u172,u173,u174,u175,u176,u177,u178,u179,u180,u181,u182,u183,u184,u185,u186,u187,u188,u189,u190,u191,u192,u193,u194,u195,u196,u197,u198,u199,u200,u201,u202,u203,u204,u205,u206,u207,u208,u209,u210,u211,u212,u213,u214,u215],[]⟩ w:=by
 obtain⟨us,hu1,hu2,hu3⟩:=hA.a.is;obtain⟨vs,hl1,hl2,hl3⟩:=hA.l.is;obtain⟨oa,ocap,hov,hoc,hom,hoe⟩:=hu2.is;obtain⟨qa,qcap,hqv,hqc,hqm,hqe⟩:=hl2.is;subst hov;subst hqv;have hlen:=hA.len;have hst:∀ i,i<A.length->∀ w,V.In w->Calls Tryd.prog 48 #[.agg #[vv,rv],us.getD i undef] w fun e w'=>e=.returned (.int .i64 (adu k (A.getD i []) k.n))/\Kp w w':=fun i hi w hV=>aex hk hok (hu3 i hi) (hA.t i hi).len (fun j hj=>by have:=ad6 hok (hA.t i hi) j hj;omega) hV
 have hto:∀ i,i<A.length->∀ w,V.In w->Calls Tryd.prog 47 #[vs.getD i undef] w fun e w'=>e=.returned (.int .i64 (ads k (A.getD i [])).sum)/\Kp w w':=fun i hi w hV=>by
  have h1:=hl3 i (by rw[List.length_map];exact hi);have h2:(A.map (ads k)).getD i []=ads k (A.getD i []):=by
   simp[List.getD_eq_getElem?_getD,List.getElem?_eq_getElem hi]
  rw[h2]at h1;have h3:=adX hok (hA.t i hi);exact adZ h1 (by rw[adA];have:=hok.le;omega) (fun j hj=>by have:=h3 j hj;omega) hV
 have hw1:=fun i w=>aix (fun l=>adu k l k.n) A i w
 have hw2:=fun i w=>aix (fun l=>(ads k l).sum) A i w
 have hz1:ain (fun l=>adu k l k.n) A 0=(0,0):=rfl;have hz2:ain (fun l=>(ads k l).sum) A 0=(0,0):=rfl;rw[List.length_map]at hqc hqe |-;generalize ain (fun l=>adu k l k.n) A=P1 at hw1 hz1 hy;generalize ain (fun l=>(ads k l).sum) A=P2 at hw2 hz2 hx;clear hA hu3 hl3 hu2 hl2;have hr3':([vv,rv]).length=2:=rfl;have hone3:=qB (wO hk.ves) (wO hk.rdg);replace hst:=aj hst;replace hto:=aj hto;replace hw1:=aj hw1;replace hw2:=aj hw2;replace hx:=aj hx;replace hy:=aj hy;refine abr (tgt:=ajE [1,2,3,4,5,6,7]) zk rfl hS ?_;clear hS;intro w' hS;refine au (aA ?_);go_wp2_with (first|(refine ya 20 ?_;clear hS;intro b20 w' hS)|(refine ya 21 ?_;clear hS;intro b21 w' hS))
 (try refine⟨rfl,?_⟩)
 refine au (aA ?_);go_wp2_with (fail)
 go_loopw [22] (fun iv wr=>∃ i:Nat,i<=A.length/\iv=.int .i64 (i:Int)/\St w0 [] V [.blk b21 27 [.int .i64 (P2 i).1,.int .i64 (P2 i).2],.blk b20 27 [.int .i64 (P1 i).1,.int .i64 (P1 i).2]] wr) (fun iv _=>A.length-(intOf iv).toNat)
 case atStart=>exact⟨0,by omega,rfl,by rw[hz1,hz2];exact hS⟩
 case round =>
  clear hS;obtain⟨i,hi,rfl,hS⟩:=hrel;have h0:(0:Int)<=i:=by omega
  by_cases hlt:i<A.length
  ·have hlt':(i:Int) < A.length:=by omega
   obtain⟨og,oo,hoa,hor⟩:=hoe zw;subst hoa;obtain⟨qg,qo,hqa,hqr⟩:=hqe zw;subst hqa;have hcell:=hor i hlt 0 _ rfl;have hcel2:=hqr i hlt 0 _ rfl;simp only[Nat.mul_one,Nat.add_zero]at hcell hcel2;have hsi:=hst.out i hlt;have hti:=hto.out i hlt;have hwi1:=hw1.out i;have hwi2:=hw2.out i;generalize us.getD i undef=u at hcell hsi;generalize vs.getD i undef=v at hcel2 hti;generalize adu k (A.getD i []) k.n=y at hsi hwi1;generalize (ads k (A.getD i [])).sum=x at hti hwi2;generalize hE1:P1 (i+1)=p1 at hwi1;generalize hE2:P2 (i+1)=p2 at hwi2;generalize P1 i=q1 at hwi1 hS;generalize P2 i=q2 at hwi2 hS;obtain⟨p11,p12⟩:=p1;obtain⟨p21,p22⟩:=p2;obtain⟨q11,q12⟩:=q1;obtain⟨q21,q22⟩:=q2;simp only at hwi1 hwi2 hS;clear hor hqr hoe hqe;replace hsi:=aj hsi;replace hti:=aj hti;replace hwi1:=aj hwi1;replace hwi2:=aj hwi2;replace hE1:=aj hE1;replace hE2:=aj hE2;go_wp2_with (fail)
   (refine bF (S:=(St w0 [] V [])) (List.replicate 21 false) rfl zk ?_;replace hS:=St.eY hS;(repeat' (first|((with_reducible refine gHd ?_);(first|((refine acU 1 rfl zk zk (by decide +kernel) (fun _ _ _ _ h=>nomatch h.1) rfl (St.aG hS) rfl rfl ?_);refine⟨_,zd,?_⟩;refine zH ?_)|(refine aar 2 rfl zk zk (by decide +kernel) rfl rfl (fun _ _ _ h=>nomatch h.1) rfl (St.aG hS) ?_;refine zH ?_)|(refine aar 3 rfl zk zk (by decide +kernel) rfl rfl (fun _ _ _ h=>nomatch h.1) rfl (St.aG hS) ?_;refine zH ?_)|(refine dw 4 rfl zk zk (by decide +kernel) (fun _ _ _ _ h=>nomatch h.1) rfl (St.aG hS) ?_;refine⟨_,zp,?_⟩;refine zH ?_)|((refine aax 5 rfl zk zk (by decide +kernel) (fun _ _ _ _ h=>nomatch h.1) rfl (St.aG hS) rfl rfl ?_);refine⟨_,zd,?_⟩;refine zH ?_)|(refine aar 7 rfl zk zk (by decide +kernel) rfl rfl (fun _ _ _ h=>nomatch h.1) rfl (St.aG hS) ?_;refine zH ?_)|(refine dw 8 rfl zk zk (by decide +kernel) (fun _ _ _ _ h=>nomatch h.1) rfl (St.aG hS) ?_;refine⟨_,zp,?_⟩;refine zH ?_)|(refine aar 11 rfl zk zk (by decide +kernel) rfl rfl (fun _ _ _ h=>nomatch h.1) rfl (St.aG hS) ?_;refine zH ?_)|(refine aar 12 rfl zk zk (by decide +kernel) rfl rfl (fun _ _ _ h=>nomatch h.1) rfl (St.aG hS) ?_;refine zH ?_)|(refine dw 13 rfl zk zk (by decide +kernel) (fun _ _ _ _ h=>nomatch h.1) rfl (St.aG hS) ?_;refine⟨_,zp,?_⟩;refine zH ?_)|((refine aax 14 rfl zk zk (by decide +kernel) (fun _ _ _ _ h=>nomatch h.1) rfl (St.aG hS) rfl rfl ?_);refine⟨_,zd,?_⟩;refine zH ?_)|(refine aar 16 rfl zk zk (by decide +kernel) rfl rfl (fun _ _ _ h=>nomatch h.1) rfl (St.aG hS) ?_;refine zH ?_)|(refine dw 17 rfl zk zk (by decide +kernel) (fun _ _ _ _ h=>nomatch h.1) rfl (St.aG hS) ?_;refine⟨_,zp,?_⟩;refine zH ?_)|(refine YB 0 (by decide +kernel) rfl hS rfl rfl rfl ?_;refine⟨_,zd,?_⟩;clear hS;refine zH ?_;intro w' hS;refine⟨(St.aG hS),?_⟩)|(refine oZ 6 (by decide +kernel) rfl rfl ⟨_,_,zo,?_⟩;refine aH hS ⟨_,hsi.out _ (St.view hS),?_⟩;clear hS;intro w' hS;refine⟨_,rfl,?_⟩;refine zH ?_;refine⟨(St.aG hS),?_⟩)|(refine oZ 9 (by decide +kernel) rfl rfl ⟨_,_,zo,?_⟩;refine aH hS ⟨_,hwi1.out _,?_⟩;clear hS;intro w' hS;refine⟨_,rfl,?_⟩;refine zH ?_;refine⟨(St.aG hS),?_⟩)|(refine YB 10 (by decide +kernel) rfl hS rfl rfl rfl ?_;refine⟨_,zd,?_⟩;clear hS;refine zH ?_;intro w' hS;refine⟨(St.aG hS),?_⟩)|(refine oZ 15 (by decide +kernel) rfl rfl ⟨_,_,zo,?_⟩;refine aH hS ⟨_,hti.out _ (St.view hS),?_⟩;clear hS;intro w' hS;refine⟨_,rfl,?_⟩;refine zH ?_;refine⟨(St.aG hS),?_⟩)|(refine oZ 18 (by decide +kernel) rfl rfl ⟨_,_,zo,?_⟩;refine aH hS ⟨_,hwi2.out _,?_⟩;clear hS;intro w' hS;refine⟨_,rfl,?_⟩;refine zH ?_;refine⟨(St.aG hS),?_⟩)|((refine wQ 19 (by decide +kernel) rfl hS rfl  rfl rfl ?_;refine⟨_,zd,?_⟩);clear hS;refine zH ?_;intro w' hS;(try simp only[sE]at hS);refine⟨(St.aG hS),?_⟩)|((refine wQ 20 (by decide +kernel) rfl hS rfl  rfl rfl ?_;refine⟨_,zd,?_⟩);clear hS;refine zH ?_;intro w' hS;(try simp only[sE]at hS);refine⟨(St.aG hS),?_⟩)|refine nP 0 6 (by decide +kernel) ?_ ?_|refine V7 0 6 10 (by decide +kernel) ?_ ?_ ?_|refine nP 0 10 (by decide +kernel) ?_ ?_|refine nP 6 10 (by decide +kernel) ?_ ?_|refine nP 9 10 (by decide +kernel) ?_ ?_|refine nP 10 15 (by decide +kernel) ?_ ?_|refine wpAnyH_done (by decide +kernel) ?_ _))|((with_reducible refine gWo ?_);(first|(refine WI 0 rfl hS rfl  rfl rfl ?_;refine⟨_,zd,?_⟩;clear hS;refine zH ?_;intro w' hS;refine⟨(St.aG hS),?_⟩)|(refine DZ 6 rfl rfl ⟨_,_,zo,?_⟩;refine aH hS ⟨_,hsi.out _ (St.view hS),?_⟩;clear hS;intro w' hS;refine⟨_,rfl,?_⟩;refine zH ?_;refine⟨(St.aG hS),?_⟩)|(refine DZ 9 rfl rfl ⟨_,_,zo,?_⟩;refine aH hS ⟨_,hwi1.out _,?_⟩;clear hS;intro w' hS;refine⟨_,rfl,?_⟩;refine zH ?_;refine⟨(St.aG hS),?_⟩)|(refine WI 10 rfl hS rfl  rfl rfl ?_;refine⟨_,zd,?_⟩;clear hS;refine zH ?_;intro w' hS;refine⟨(St.aG hS),?_⟩)|(refine DZ 15 rfl rfl ⟨_,_,zo,?_⟩;refine aH hS ⟨_,hti.out _ (St.view hS),?_⟩;clear hS;intro w' hS;refine⟨_,rfl,?_⟩;refine zH ?_;refine⟨(St.aG hS),?_⟩))))))
   all_goals (
    go_wp2_with (fail)
    go_roundw
    case rel=>exact⟨i+1,by omega,by go_num,by rw[hE1.out,hE2.out];exact hS.aG⟩
    case measure=>simp only[intOf];omega)
  ·obtain rfl:i=A.length:=by omega
   rw[hx.out,hy.out]at hS;simp only at hS;go_wp2_with (fail)
   refine au (ig (abP 1 (by decide) ?_));simp only[List.take_succ_cons,List.take_zero];go_wp2_with (refine yy ?_;clear hS;intro w' hS)
   refine bG (tgt:=ajE [1,2,3,4,5,6,7]) ?_;refine acB 189 hS hB hk hlo rfl rfl rfl rfl rfl rfl ?_;clear hS;intro w' a' hS hp;simp only[fr]at hp;subst hp;refine abr (tgt:=ajF [1,2,3,4,5,6,7]) zk rfl hS ?_;clear hS;intro w' hS;refine abe 2 rfl ?_;simp only[List.drop_succ_cons,List.drop_zero];go_wp2_with (first|(refine ys ?_;clear hS;intro w' hS)|(refine ye ?_;clear hS;intro _ w' hS))
   refine dH (au (ig (abP 1 (by decide) ?_)));simp only[List.take_succ_cons,List.take_zero];go_wp2_with (refine yy ?_;clear hS;intro w' hS)
   refine bG (tgt:=ajF [1,2,3,4,5,6,7]) ?_;refine aes 194 hS hB hk hsv rfl rfl rfl rfl rfl rfl ?_;clear hS;intro w' a' hS hp;simp only[fr]at hp;subst hp;refine abr (tgt:=[.inRegion ajg [17,18,19],.code .ret]) zk rfl hS ?_;clear hS;intro w' hS;refine abe 2 rfl ?_;simp only[List.drop_succ_cons,List.drop_zero];go_wp2_with (first|(refine ys ?_;clear hS;intro w' hS)|(refine ye ?_;clear hS;intro _ w' hS))
   refine dH (au (ig (abP 17 (by decide) ?_)));simp only[List.take_succ_cons,List.take_zero];go_wp2_with (refine yy ?_;clear hS;intro w' hS)
   refine bG (tgt:=[.inRegion ajg [17,18,19],.code .ret]) ?_;refine acy 214 hS hB rfl rfl rfl rfl rfl rfl ?_;clear hS;intro w' a' hS hp;simp only[fr]at hp;subst hp;refine abr (tgt:=[.code .ret]) zk rfl hS ?_;clear hS;intro w' hS;refine abe 18 rfl ?_;simp only[List.drop_succ_cons,List.drop_zero];go_wp2_with (fail)
   refine dH (bG (tgt:=[.code .ret]) ?_);exact ac2 Tryd.func17 hS rfl (fun w=>bH (r1:=.tmp 2) zk (bD rfl))
noncomputable def aj8:Code:=match ajn with | .seq (.seq _ (.cond _ r _)) _=>r|_=>.skip
noncomputable def ajh:Array Oper:=match aj8 with | .seq (.region _ o _) _=>o|_=>#[]
set_option maxRecDepth 40000 in
theorem all_start (hB:Bs V) (hg:Go.Wg.gN<=w.heap.size) (hl:VI V lv l) (hV:V.In w):RB 17 (fun r w'=>r=.returned (.bool true)/\Kp w w') [.code B17] ⟨#[lv] ++ Array.replicate 215 undef,[]⟩ w:=by
 have hS:=St.start w V hV;obtain⟨la,lcap,hlv,hlc,hlm,hle⟩:=hl.is;clear hle hlc hlm;subst hlv;simp only[Array.replicate_succ,Array.replicate_zero,List.push_toArray,List.append_toArray,List.nil_append,List.cons_append];refine abr (tgt:=[.code ajn]) zk rfl hS ?_;clear hS;intro w' hS;refine au (aA ?_);go_wp2_with (fail)
 refine au (aA ?_);go_wp2_with (first|(refine ys ?_;clear hS;intro w' hS)|(refine ya 3 ?_;clear hS;intro b3 w' hS)|(go_at_call 23;refine Aj hS ⟨_,_,SY ⟨_,_,_,rfl⟩,?_⟩;clear hS;intro bh w' hS)|(go_at_call 60;refine(aie (V:=V) ⟨⟨l,hl⟩,by decide,by decide⟩ (by decide) (St.view hS) (hS.off _ (List.mem_cons_self ..) bh rfl) (St.dR hS)).mono ?_;rintro _ w1 ⟨k,vv,rv,c1,s1,rfl,hok,hkn,hrl,hrm,k1,k2,hS1⟩;obtain⟨V1,hV1,hS2,hk⟩:=Eh (hS.comp (j:=0) rfl (hS1.perm (List.perm_append_comm (l₁:=[_,_]) (l₂:=[_])))) hg hB ⟨hok.pos,by have:=hok.le;omega,by omega⟩;clear hS hS1;have hS:=hS2;clear hS2;have hone2:=qB (wO hk.ves) (wO hk.rdg)))
 obtain⟨V2,hV2,hc1,hS2⟩:=pin hS;clear hS;have hS:=hS2;clear hS2;have hB2:Bs V2:=(hB.mono hV1).mono hV2;have hk2:=jf hk hV2;have hr3:V2.Range b3 0 [vv,rv]:=fun j v hj=>by rw[Nat.zero_add];exact hc1 j v hj
 have hr3':([vv,rv]).length=2:=rfl;clear hk hc1 hB;replace hrm:=aj hrm;refine au (aA ?_);go_wp2_with (first|(refine yy ?_;clear hS;intro w' hS)|(go_at_call 61;refine ahU hS (ah6 hk2 hok hkn (St.view hS)) ?_;clear hS;intro V3 v4 v5 w' hV3 hl4 hl5 h4o h5o hS))
 have hB3:Bs V3:=hB2.mono hV3;have hk3:=jf hk2 hV3;have hr33:=hr3.mono hV3;have hcan:=adi hok;by_cases hn:jv k=[]
 ·have hE:=aiX hok hrm.out hn;have hcf:can k (aN k aC)=false:=by
   cases h:can k (aN k aC)
   ·rfl
   ·exact absurd hn ((ahy hok hrm.out).1 h)
  rw[hcf]at hcan;rw[hn]at hl4;obtain⟨ga,gcap,hgs⟩:=hl4.len0;subst hgs;clear hl4 hl5 hcf;refine au (aA ?_);go_wp2_with (first|(refine yy ?_;clear hS;intro w' hS)|(go_at_call 27;refine Ls hS hB3 hk3 hE ?_;clear hS;intro V4 tv w' hV4 htv hto hS))
  obtain⟨ta,tcap,hts,_⟩:=htv.is;subst hts;have hB4:=hB3.mono hV4;have hk4:=jf hk3 hV4;have hr34:=hr33.mono hV4;refine au (aA ?_);go_wp2_with (first|(refine yy ?_;clear hS;intro w' hS)|(go_at_call 25;refine abD hS hB4 hk4 hcan ?_;clear hS;intro w' hS))
  refine au (aA ?_);go_wp2_with (fail)
  refine bG (tgt:=[.code ajn]) ?_;refine abr (tgt:=[.inRegion ajh [8,9,10],.code .ret,.code ajf]) zk rfl hS ?_;clear hS;intro w' hS;refine au (au (aA ?_));go_wp2_with (fail)
  refine dZ (o:=.tmp 55) (t:=true) (by rfl) ?_;refine au (ig (abP 8 (by decide) ?_));simp only[List.take_succ_cons,List.take_zero];go_wp2_with (fail)
  refine bG (tgt:=[.inRegion ajh [8,9,10],.code .ret,.code ajf]) ?_;refine acy 64 hS hB4 rfl rfl rfl rfl rfl rfl ?_;clear hS;intro w' a' hS hp;simp only[fr]at hp;subst hp;refine abr (tgt:=[.code .ret,.code ajf]) zk rfl hS ?_;clear hS;intro w' hS;refine abe 9 rfl ?_;simp only[List.drop_succ_cons,List.drop_zero];go_wp2_with (fail)
  refine dH (bG (tgt:=[.code .ret,.code ajf]) ?_);exact ac2 Tryd.func17 hS rfl (fun w=>bH (r1:=.tmp 2) zk (bD rfl))
 ·have hn1:0 < (jv k).length:=List.length_pos_iff.2 hn;have hE:=aiL hok hrm.out hn;have hct:=(ahy hok hrm.out).2 hn;rw [hct] at hcan;obtain ⟨w1,h1⟩:=(QS hok (gG _ _)).1 hct;have hlo:=aeA hok h1;have hsv:=aea hok h1;have hx:=ai1 hok hrm.out hn (f:=fun l=>(ads k l).sum) (abL hok false h1) fun w _=>aem w
  have hy:=ai1 hok hrm.out hn (f:=fun l=>adu k l k.n) (abL hok true h1) fun w _=>aee w
  have hval:=fun v (hv:v<k.n)=>ajq hok hrm.out hn hv
  have htr:∀ i,i<(jv k).length->Truth k ((jv k).getD i []):=fun i hi=>by
   rw[List.getD_eq_getElem?_getD,List.getElem?_eq_getElem hi];exact(ahk hrm.out).1 (List.getElem_mem hi)
  have hlen:(jv k).length<=2401:=by
   have h1:=ahs k (agN 7 k.n).length;rw[aht,ahB]at h1;exact Nat.le_trans h1 (Nat.le_trans (Nat.pow_le_pow_right (by decide) hkn) (by decide))
  obtain⟨x1,x2,hxt⟩:∃ x1 x2,dW k (aN k aC) false=(x1,x2):=⟨_,_,rfl⟩;obtain⟨y1,y2,hyt⟩:∃ y1 y2,dW k (aN k aC) true=(y1,y2):=⟨_,_,rfl⟩;rw[hxt]at hlo hx;rw[hyt]at hsv hy;have hA:ajs V3 k v4 v5 (jv k):=⟨hl4,hl5,htr,hlen⟩;have hsm:∀ i,i<(jv k).length->∀ v,v<k.n->((jv k).getD i []).getD v 0<=6:=fun i hi v hv=>Int.le_trans ((htr i hi).room v hv).2 (hrm.out v hv)
  have h0l:=(htr 0 hn1).len;obtain⟨us,hu1,hu2,hu3⟩:=hl4.is;have hvi0:=hu3 0 hn1;clear htr hct h1 hxt hyt;clear w1;have hfin:∀ (V':View) (_:∀ j o,V3 j=some o->V' j=some o) (w1:World) (u1 u2 u6 u7 u8 u9 u10 u11 u12 u13 u14 u15 u16 u17 u18 u19 u20 u21 u22 u23 u24 u25 u26 u27 u28 u29 u30 u31 u32 u33 u34 u35 u36 u37 u38 u39 u40 u41 u42 u43 u44 u45 u46 u47 u48 u49 u50 u51 u52 u53 u54 u55 u56 u57 u58 u59 u60 u61 u62 u63 u64 u65 u66 u67 u68 u69 u70 u71 u72 u73 u74 u75 u76 u77 u78 u79 u80 u81 u82 u83 u84 u85 u86 u87 u88 u89 u90 u91 u92 u93 u94 u95 u96 u97 u98 u99 u100 u101 u102 u103 u104 u105 u106 u107 u108 u109 u110 u111 u112 u113 u114 u115 u116 u117 u118 u119 u120 u121 u122 u123 u124 u125 u126 u127 u128 u129 u130 u131 u132 u133 u134 u135 u136 u137 u138 u139 u140 u141 u142 u143 u144 u145 u146 u147 u148 u149 u150 u151 u152 u153 u154 u155 u156 u157 u158 u159 u160 u161 u162 u163 u164 u165 u166 u167 u168 u169 u170 u171 u172 u173 u174 u175 u176 u177 u178 u179 u180 u181 u182 u183 u184 u185 u186 u187 u188 u189 u190 u191 u192 u193 u194 u195 u196 u197 u198 u199 u200 u201 u202 u203 u204 u205 u206 u207 u208 u209 u210 u211 u212 u213 u214 u215:Value),St w [] V' [] w1->RB 17 (fun r w'=>r=.returned (.bool true)/\Kp w w') [.code aja] ⟨#[.slice la l.length lcap,u1,u2,.pointer (some ⟨b3,0,none⟩),v4,v5,u6,u7,u8,u9,u10,u11,u12,u13,u14,u15,u16,u17,u18,u19,u20,u21,u22,u23,u24,u25,u26,u27,u28,u29,u30,u31,u32,u33,u34,u35,u36,u37,u38,u39,u40,u41,u42,u43,u44,u45,u46,u47,u48,u49,u50,u51,u52,u53,u54,u55,u56,u57,u58,u59,u60,u61,u62,u63,u64,u65,u66,u67,u68,u69,u70,u71,u72,u73,u74,u75,u76,u77,u78,u79,u80,u81,u82,u83,u84,u85,u86,u87,u88,u89,u90,u91,u92,u93,u94,u95,u96,u97,u98,u99,u100,u101,u102,u103,u104,u105,u106,u107,u108,u109,u110,u111,u112,u113,u114,u115,u116,u117,u118,u119,u120,u121,u122,u123,u124,u125,u126,u127,u128,u129,u130,u131,u132,u133,u134,u135,u136,u137,u138,u139,u140,u141,u142,u143,u144,u145,u146,u147,u148,u149,u150,u151,u152,u153,u154,u155,u156,u157,u158,u159,u160,u161,u162,u163,u164,u165,u166,u167,u168,u169,u170,u171,u172,u173,u174,u175,u176,u177,u178,u179,u180,u181,u182,u183,u184,u185,u186,u187,u188,u189,u190,u191,u192,u193,u194,u195,u196,u197,u198,u199,u200,u201,u202,u203,u204,u205,u206,u207,u208,u209,u210,u211,u212,u213,u214,u215],[]⟩ w1 :=
   fun V' hV' w1 u1 u2 u6 u7 u8 u9 u10 u11 u12 u13 u14 u15 u16 u17 u18 u19 u20 u21 u22 u23 u24 u25 u26 u27 u28 u29 u30 u31 u32 u33 u34 u35 u36 u37 u38 u39 u40 u41 u42 u43 u44 u45 u46 u47 u48 u49 u50 u51 u52 u53 u54 u55 u56 u57 u58 u59 u60 u61 u62 u63 u64 u65 u66 u67 u68 u69 u70 u71 u72 u73 u74 u75 u76 u77 u78 u79 u80 u81 u82 u83 u84 u85 u86 u87 u88 u89 u90 u91 u92 u93 u94 u95 u96 u97 u98 u99 u100 u101 u102 u103 u104 u105 u106 u107 u108 u109 u110 u111 u112 u113 u114 u115 u116 u117 u118 u119 u120 u121 u122 u123 u124 u125 u126 u127 u128 u129 u130 u131 u132 u133 u134 u135 u136 u137 u138 u139 u140 u141 u142 u143 u144 u145 u146 u147 u148 u149 u150 u151 u152 u153 u154 u155 u156 u157 u158 u159 u160 u161 u162 u163 u164 u165 u166 u167 u168 u169 u170 u171 u172 u173 u174 u175 u176 u177 u178 u179 u180 u181 u182 u183 u184 u185 u186 u187 u188 u189 u190 u191 u192 u193 u194 u195 u196 u197 u198 u199 u200 u201 u202 u203 u204 u205 u206 u207 u208 u209 u210 u211 u212 u213 u214 u215 hS=>aiO (hB3.mono hV') (jf hk3 hV') hok (hr33.mono hV') ⟨hA.a.mono hV',hA.l.mono hV',hA.t,hA.len⟩ hsm hval
    (fun w u1 u2 u6 u7 u8 u9 u10 u11 u12 u13 u14 u15 u16 u17 u18 u19 u20 u21 u22 u23 u24 u25 u26 u27 u28 u29 u30 u31 u32 u33 u34 u35 u36 u37 u38 u39 u40 u41 u42 u43 u44 u45 u46 u47 u48 u49 u50 u51 u52 u53 u54 u55 u56 u57 u58 u59 u60 u61 u62 u63 u64 u65 u66 u67 u68 u69 u70 u71 u72 u73 u74 u75 u76 u77 u78 u79 u80 u81 u82 u83 u84 u85 u86 u87 u88 u89 u90 u91 u92 u93 u94 u95 u96 u97 u98 u99 u100 u101 u102 u103 u104 u105 u106 u107 u108 u109 u110 u111 u112 u113 u114 u115 u116 u117 u118 u119 u120 u121 u122 u123 u124 u125 u126 u127 u128 u129 u130 u131 u132 u133 u134 u135 u136 u137 u138 u139 u140 u141 u142 u143 u144 u145 u146 u147 u148 u149 u150 u151 u152 u153 u154 u155 u156 u157 u158 u159 u160 u161 u162 u163 u164 u165 u166 u167 u168 u169 u170 u171 u172 u173 u174 u175 u176 u177 u178 u179 u180 u181 u182 u183 u184 u185 u186 u187 u188 u189 u190 u191 u192 u193 u194 u195 u196 u197 u198 u199 u200 u201 u202 u203 u204 u205 u206 u207 u208 u209 u210 u211 u212 u213 u214 u215 hS=>ajc (hB3.mono hV') (jf hk3 hV') hok (hr33.mono hV') ⟨hA.a.mono hV',hA.l.mono hV',hA.t,hA.len⟩ hlo hsv hx hy w hS _ _ _ _ _ _ _ _ _ _ _ _ _ _ _ _ _ _ _ _ _ _ _ _ _ _ _ _ _ _ _ _ _ _ _ _ _ _ _ _ _ _ _ _ _ _ _ _ _ _ _ _ _ _ _ _ _ _ _ _ _ _ _ _ _ _ _ _ _ _ _ _ _ _ _ _ _ _ _ _ _ _ _ _ _ _ _ _ _ _ _ _ _ _ _ _ _ _ _ _ _ _ _ _ _ _ _ _ _ _ _ _ _ _ _ _ _ _ _ _ _ _ _ _ _ _ _ _ _ _ _ _ _ _ _ _ _ _ _ _ _ _ _ _ _ _ _ _ _ _ _ _ _ _ _ _ _ _ _ _ _ _ _ _ _ _ _ _ _ _ _ _ _ _ _ _ _ _ _ _ _ _ _ _ _ _ _ _ _ _ _ _ _ _ _ _ _ _ _ _ _ _ _ _ _ _ _ _ _ _ _ _) w1 hS _ _ _ _ _ _ _ _ _ _ _ _ _ _ _ _ _ _ _ _ _ _ _ _ _ _ _ _ _ _ _ _ _ _ _ _ _ _ _ _ _ _ _ _ _ _ _ _ _ _ _ _ _ _ _ _ _ _ _ _ _ _ _ _ _ _ _ _ _ _ _ _ _ _ _ _ _ _ _ _ _ _ _ _ _ _ _ _ _ _ _ _ _ _ _ _ _ _ _ _ _ _ _ _ _ _ _ _ _ _ _ _ _ _ _ _ _ _ _ _ _ _ _ _ _ _ _ _ _ _ _ _ _ _ _ _ _ _ _ _ _ _ _ _ _ _ _ _ _ _ _ _ _ _ _ _ _ _ _ _ _ _ _ _ _ _ _ _ _ _ _ _ _ _ _ _ _ _ _ _ _ _ _ _ _ _ _ _ _ _ _ _ _ _ _ _ _ _ _ _ _ _ _ _ _ _ _ _ _ _ _ _
  obtain⟨oa,ocap,hov,hoc,hom,hoe⟩:=hu2.is;obtain⟨og,oo,hoa,hor⟩:=hoe hn1;have hcell:=hor 0 hn1 0 _ rfl;simp only[Nat.zero_mul,Nat.add_zero]at hcell;clear hA hval hx hy hlo hsv hsm hu3 hl4 hl5 hoe hor hu2;generalize (jv k).getD 0 []=t0 at hE hvi0 h0l;generalize us.getD 0 undef=u0 at hcell hvi0;generalize jv k=A at hn1 hov hoc hn hlen;subst hoa;subst hov;have hd0:decide ((0:Int)<(A.length:Int))=true:=decide_eq_true zw;have hd1:decide (0<A.length)=true:=decide_eq_true hn1;have hA0:(0:Int)<(A.length:Int):=by omega
  have hu0o:=wO hvi0;clear hn;replace hfin:=aj hfin;refine au (aA ?_);go_wp2_with (first|(refine yy ?_;clear hS;intro w' hS)|(go_at_call 27;refine Ls hS hB3 hk3 hE ?_;clear hS;intro V4 tv w' hV4 htv hto hS))
  have hB4:=hB3.mono hV4;have hk4:=jf hk3 hV4;have hr34:=hr33.mono hV4;have hcel4:=hcell.mono hV4;have hvi4:=IU hvi0 hV4;refine au (aA ?_);go_wp2_with (first|(refine yy ?_;clear hS;intro w' hS)|(go_at_call 25;refine abD hS hB4 hk4 hcan ?_;clear hS;intro w' hS))
  refine au (aA ?_);go_wp2_with (fail)
  refine bG (tgt:=[.code ajn]) ?_;refine abr (tgt:=[.code aja]) zk rfl hS ?_;clear hS;intro w' hS;refine au (aA ?_);go_wp2_with (fail)
  refine au (aA ?_);go_wp2_with (first|(refine yy ?_;clear hS;intro w' hS)|(go_at_call 31;refine aH hS ⟨_,SI t0 t0 _ _ htv hvi4 zw zw (St.view hS),?_⟩;clear hS;intro w' hS))
  refine bG (tgt:=[.code aja]) ?_;exact hfin.out V4 hV4 _ _ _ _ _ _ _ _ _ _ _ _ _ _ _ _ _ _ _ _ _ _ _ _ _ _ _ _ _ _ _ _ _ _ _ _ _ _ _ _ _ _ _ _ _ _ _ _ _ _ _ _ _ _ _ _ _ _ _ _ _ _ _ _ _ _ _ _ _ _ _ _ _ _ _ _ _ _ _ _ _ _ _ _ _ _ _ _ _ _ _ _ _ _ _ _ _ _ _ _ _ _ _ _ _ _ _ _ _ _ _ _ _ _ _ _ _ _ _ _ _ _ _ _ _ _ _ _ _ _ _ _ _ _ _ _ _ _ _ _ _ _ _ _ _ _ _ _ _ _ _ _ _ _ _ _ _ _ _ _ _ _ _ _ _ _ _ _ _ _ _ _ _ _ _ _ _ _ _ _ _ _ _ _ _ _ _ _ _ _ _ _ _ _ _ _ _ _ _ _ _ _ _ _ _ _ _ _ _ _ _ _ _ hS.aG
theorem ajL (hB:Bs V) (hg:Go.Wg.gN<=w.heap.size) (hl:VI V lv l) (hV:V.In w) (hh:ay OC w):kL Tryd.prog 17 #[lv] w fun r w'=>r=.returned (.bool true)/\Kp w w' :=
 abY (B:=B17) (m:=215) Tryd.func17 (show Tryd.f17.body=some B17 from rfl) zk hh (all_start hB hg hl hV)
end Go.Proofs.YtjjmefieegcddaaDoor
