/- A part of the proof: W85. -/
import Derived.Test.YtjjmefieegcddaaDoorC26
import Derived.Test.YtjjmefieegcddaaDoorC28
set_option linter.unusedVariables false
set_option linter.unusedSimpArgs false
set_option maxHeartbeats 8000000
namespace Go.Proofs.YtjjmefieegcddaaDoor
open Go.RowKit Go.Wg Go.Mm Go.Wk
open Go Go.Sr Go.Ph Go.Tm Go.Conc
variable {w:World} {V:View}
noncomputable def B9:Code:=match Tryd.f9.body with | some c=>c | none=>.skip
noncomputable def E9:Code:=match B9 with | .seq _ (.seq _ (.seq _ (.seq _ (.seq _ (.seq _ (.seq _ r))))))=>r | _=>.skip
noncomputable def ops9:Array Oper:=match E9 with | .seq (.region _ o _) _=>o | _=>#[]
theorem PI {w0:World} {X:List Nat} {L:List dF} {vv rv:Value} {k:Wk} {R:Ending→World→Prop} {l:List Int} {e:Int} (hS:St w0 X V L w) (hB:Bs V) (hk:iJ V vv rv k) (hv:vk k=(l,e))
  (h:∀ (V':View) (v:Value) (w':World),(∀ j o,V j=some o→V' j=some o)→VI V' v l→v.oneCell'=true→St w0 X V' L w'→R (.returned (.tuple #[v,.int .i64 e])) w'):Calls Tryd.prog 53 #[.agg #[vv,rv]] w R:=by
 have hc:=X9 vv rv k hk hB.gv hS.view
 rw [hv] at hc
 exact xZ hS hc h
theorem IU {V V':View} {v:Value} {l:List Int} (h:VI V v l) (hV:∀ j o,V j=some o→V' j=some o):VI V' v l:=pW.mono h hV
theorem VZ {k:Wk} (hok:k.Ok) (h5:k.rdg.length≤5) {ws:List Int} (ht:Truth k ws) {x:Int} (hx:x∈fK k k.n) :
  ∃ v M:Nat,x=(v:Int)∧v < k.n∧ws.getD v 0=(M:Int)∧M≤40∧iw k (v:Int)=(((M:Int),(M:Int)),0)∧(k.cut v M).Ok ∧
   ∀ j,j < k.n→inB k v j=true→iw (k.cut v M) (cB k v j:Nat)=iw k (j:Int)∧∃ a b,iw k (j:Int)=((a,b),0):=by
 obtain ⟨v,rfl,hv⟩:=WU k k.n x hx
 have h0:=Wp hok ht
 obtain ⟨_,hs⟩:=(VN k v k.n).1 hx
 obtain ⟨h1,h2⟩:=VJ hok h0 hv hs
 have hr:=ht.room v hv
 have h40:(k.v v).room≤40:=(hok.ves v hv).2.2.2.1
 have hM:(ws.getD v 0).toNat≤40:=by omega
 have hco:=V9 hok hv hM h5
 obtain ⟨w1,hw1⟩:=Vs hok hv hM h0 rfl h2
 refine ⟨v,(ws.getD v 0).toNat,rfl,hv,by omega,hM,?_,hco,fun j hj hb=>⟨?_,?_⟩⟩
 ·rw [uj hok h0 hv,h1]
 ·rw [uj hok h0 hj,uj hco hw1 (show cB k v j < (k.cut v (ws.getD v 0).toNat).n from by
   rw [show (k.cut v (ws.getD v 0).toNat).n=cB k v k.n from jy k v]
   exact vH k v hj hb),Px hok hv hM h5 h0 rfl h2 hj hb]
 ·exact ⟨_,_,uj hok h0 hj⟩
set_option maxRecDepth 40000 in
theorem aby {lv:Value} {l:List Int} (hB:Bs V) (hg:Go.Wg.gN≤w.heap.size) (hl:VI V lv l) (hV:V.In w):fA Tryd.prog [.inRegion ops9 [0,1],.code .ret] (Y6 149 w) [.code B9] { tmps:=#[lv] ++ Array.replicate 148 undef,defers:=[] } w:=by
 have hS:=St.start w V hV
 obtain ⟨la,lcap,hlv,hlc,hlm,hle⟩:=hl.is
 clear hle hlc hlm
 subst hlv
 simp only [Array.replicate_succ,Array.replicate_zero,List.push_toArray,List.append_toArray,List.nil_append,List.cons_append]
 refine au (aA ?_)
 go_wp2_with (fail)
 refine au (aA ?_)
 go_wp2_with (go_at_call 23;refine Aj hS ⟨_,_,SY ⟨_,_,_,rfl⟩,?_⟩;clear hS;(try clear w');intro bh w' hS)
 refine au (aA ?_)
 go_wp2_with (first | (first | (((with_reducible refine gS ?_);refine bQ hS rfl rfl rfl ?_);refine ⟨_,zd,?_⟩;clear hS;(try clear w');intro a' hp;(try simp only [fr] at hp);subst hp;intro w' hS;(try simp only [sE] at hS)) | ((with_reducible refine gA ?_);refine aT 4 rfl hS rfl rfl ?_;clear hS;(try clear w');intro b4;intro a' hp;(try simp only [fr] at hp);subst hp;intro w' hS)) | (go_at_call 38;refine (Ub (V:=V) ⟨⟨l,hl⟩,by decide,by decide⟩ (by decide) (by decide) (by decide) (St.view hS) (hS.off _ (List.mem_cons_self ..) bh rfl) (St.dR hS)).mono ?_;rintro _ w1 ⟨k,ws,vv,rv,mv,c1,s1,rfl,hok,hkn,hrl,htr,k1,k2,hS1⟩;have hS0:=hS.comp (j:=0) rfl (hS1.perm (List.perm_append_comm (l₁:=[_,_,_]) (l₂:=[_])));have hS00:St w [] V (.row mv 3 1 ws.length (aV ws) :: [.row vv 29 4 k.n (fD k.ves),.row rv 59 4 k.rdg.length (fH k.rdg),.blk bh 90 (jv _ c1 s1)]) w1:=(by rw [htr.len];exact hS0);obtain ⟨V0,hV0,hS2,hmv0⟩:=RP hS00;obtain ⟨V1,hV1,hS3,hk⟩:=Eh hS2 hg (hB.mono hV0) ⟨hok.pos,by have:=hok.le;omega,by omega⟩;clear hS hS0 hS00 hS1 hS2;(try clear w');have hS:=hS3;clear hS3;have hmv:=IU hmv0 hV1;have hmo:=wO hmv;have hone2:=qB (wO hk.ves) (wO hk.rdg)))
 have hB1:Bs V1:=(hB.mono hV0).mono hV1
 have hto1:xB V1 bh (.slice la l.length lcap) c1:=⟨⟨l,IU (IU hl hV0) hV1⟩,by omega,by omega⟩
 have hk6:=hok.le
 have hk0:=hok.pos
 have hn:=htr.len
 obtain ⟨va,vcap,hvv,_⟩:=hk.ves.is
 obtain ⟨ra,rcap,hrv,_⟩:=hk.rdg.is
 obtain ⟨ma,mcap,hmvv,hmc,hmm,hme⟩:=hmv.is
 rw [hn] at hmvv hme hmc
 subst hvv;subst hrv;subst hmvv
 obtain ⟨mg,mo,hma,hmr⟩:=hme hk0
 subst hma
 have hmcell:∀ j,j < k.n→V1.Cell mg (mo+j) (.int .i64 (ws.getD j 0)):=fun j hj=>by
  have:=hmr j hj 0 _ rfl
  simpa using this
 have hr6:(k.rdg.length:Int) < 6:=by omega
 clear hme hmr hmc hmv0 hl hn
 refine au (aA ?_)
 go_wp2_with (first | (((with_reducible refine gL ?_);refine gY hS rfl rfl rfl ?_);refine ⟨_,zd,?_⟩;clear hS;(try clear w');intro a' hp;(try simp only [fr] at hp);subst hp;intro w' hS;(try simp only [sE] at hS)) | (go_at_call 39;refine eF hS ⟨1,_,fun hVb hg=>xC hto1 (by omega) (St.view hS) hVb hg,?_⟩;clear hS;(try clear w');intro v c4 s4 w' hp k7 k8 hS;(try simp only [sE] at hS);obtain ⟨y,rfl,hy0,hy1⟩:=hp;obtain ⟨v,hyv⟩:∃ v:Nat,y=(v:Int):=⟨y.toNat,by omega⟩;subst hyv))
 have hvn:v < k.n:=by omega
 have hvn':(v:Int) < k.n:=by omega
 have h0v:(0:Int)≤v:=by omega
 have hcell:=hmcell v hvn
 have hro:=htr.room v hvn
 have hr40:(k.v v).room≤40:=(hok.ves v hvn).2.2.2.1
 obtain ⟨y0,hy⟩:∃ y0,ws.getD v 0=y0:=⟨_,rfl⟩
 rw [hy] at hcell hro
 have hpo:(k.plus ⟨v,0,y0,0⟩).Ok:=Go.Wg.yT hok (by omega) ⟨h0v,by simp only;omega,Int.le_refl 0,(by decide:(0:Int)≤2),by simp only;omega,by simp only;omega,Int.le_refl 0,(by decide:(0:Int)≤9)⟩
 have htp:Truth (k.plus ⟨v,0,y0,0⟩) ws:=Oa htr (by simp only [Int.toNat_natCast];rw [hy];omega)
 have hp5:(k.plus ⟨v,0,y0,0⟩).rdg.length≤5:=by show (k.rdg ++ [_]).length≤5;simp;omega
 have hsn:(k.plus ⟨v,0,y0,0⟩).n=k.n:=rfl
 have hwith:∀ w,V1.In w→Calls Tryd.prog 41 #[.agg #[.slice va k.n vcap,.slice ra k.rdg.length rcap],.agg #[.int .i64 (v:Int),.int .i64 0,.int .i64 y0,.int .i64 0]] w fun e w'=>∃ rv',e=.returned (.agg #[.slice va k.n vcap,rv'])∧St w [] V1 [.row rv' 59 4 (k.plus ⟨v,0,y0,0⟩).rdg.length (fH (k.plus ⟨v,0,y0,0⟩).rdg)] w':=fun w hV=>Qd hk ⟨v,0,y0,0⟩ hV
 have hview:∀ (rv':Value) (L:List dF) (w':World),St w [] V1 (.row rv' 59 4 (k.plus ⟨v,0,y0,0⟩).rdg.length (fH (k.plus ⟨v,0,y0,0⟩).rdg) :: L) w'→∃ V',(∀ j o,V1 j=some o→V' j=some o)∧St w [] V' L w'∧iJ V' (.slice va k.n vcap) rv' (k.plus ⟨v,0,y0,0⟩):=fun _ _ _ h=>xG (k:=k) h hg hk (Nat.le_trans hp5 (by decide))
 generalize k.plus ⟨v,0,y0,0⟩=k1 at hpo htp hp5 hsn hwith hview
 have hsv:=WJ hpo (Wp hpo htp)
 have hcs:=fun x hx=>VZ hpo hp5 htp (x:=x) hx
 have hsl:=EC k1 k1.n
 generalize fK k1 k1.n=sl at hsv hcs hsl
 rw [hsn] at hcs hsl
 have hgt:¬ ((k.n:Int) < (sl.length:Int)):=by omega
 have hvo1:(Value.slice va k.n vcap).oneCell'=true:=rfl
 clear hro hr40 htr hk hy
 replace hwith:=aj hwith;replace hview:=aj hview;replace hcs:=aj hcs;replace htp:=aj htp;replace hmcell:=aj hmcell
 (refine bF (S:=(St w [] V1 [])) [false,false,false,false,false,false,false,false,false] rfl (by kernel_rfl) ?_;replace hS:=St.eY hS;(iterate 5 ((first | refine hxm 1 rfl ?_ | refine hxm 2 rfl ?_ | refine hxm 3 rfl ?_ | refine hxp 4 rfl ?_ | refine hxc 5 rfl ?_);intro a' l' hp hl;(try simp only [fr] at hp);(try simp only [sB] at hl);subst hp;subst hl));(focus (refine nP 0 6 (by kernel_rfl) ?_ ?_;rotate_left;(refine DZ 6 rfl rfl ⟨_,_,zo,?_⟩;refine aH hS ⟨_,Xg _ _ _ _ _,?_⟩;clear hS;(try clear w');intro w' hS;refine ⟨_,rfl,?_⟩;intro a' l' hp hl;(try simp only [fr] at hp);(try simp only [sB] at hl);subst hp;subst hl;refine ⟨(St.aG hS),?_⟩);(refine YB 0 (by kernel_rfl) rfl hS rfl rfl rfl ?_;refine ⟨_,zd,?_⟩;clear hS;(try clear w');intro a' l' hp hl;(try simp only [fr] at hp);(try simp only [sB] at hl);subst hp;subst hl;intro w' hS;refine ⟨(St.aG hS),?_⟩);(refine oZ 7 (by kernel_rfl) rfl rfl ⟨_,_,zo,?_⟩;refine (hwith.out _ (St.view hS)).mono ?_;rintro _ w1 ⟨rv',rfl,hS1⟩;have hS2:=hS.Nq hS1;simp only [List.cons_append,List.nil_append] at hS2;clear hS hS1;(try clear w');have hS:=hS2;clear hS2;have hone3:=qB hvo1 (dY hS rv');refine ⟨_,rfl,?_⟩;intro a' l' hp hl;(try simp only [fr] at hp);(try simp only [sB] at hl);subst hp;subst hl;refine ⟨(St.aG hS),?_⟩);((refine wQ 8 (by kernel_rfl) rfl hS rfl  rfl rfl ?_;refine ⟨_,zd,?_⟩);clear hS;(try clear w');intro a' l' hp hl;(try simp only [fr] at hp);(try simp only [sB] at hl);subst hp;subst hl;intro w' hS;(try simp only [sE] at hS);refine ⟨(St.aG hS),?_⟩);refine wpAnyH_done (by kernel_rfl) ?_ _;rotate_left;(refine WI 0 rfl hS rfl  rfl rfl ?_;refine ⟨_,zd,?_⟩;clear hS;(try clear w');intro a' l' hp hl;(try simp only [fr] at hp);(try simp only [sB] at hl);subst hp;subst hl;intro w' hS;refine ⟨(St.aG hS),?_⟩);(refine oZ 6 (by kernel_rfl) rfl rfl ⟨_,_,zo,?_⟩;refine aH hS ⟨_,Xg _ _ _ _ _,?_⟩;clear hS;(try clear w');intro w' hS;refine ⟨_,rfl,?_⟩;intro a' l' hp hl;(try simp only [fr] at hp);(try simp only [sB] at hl);subst hp;subst hl;refine ⟨(St.aG hS),?_⟩);(refine oZ 7 (by kernel_rfl) rfl rfl ⟨_,_,zo,?_⟩;refine (hwith.out _ (St.view hS)).mono ?_;rintro _ w1 ⟨rv',rfl,hS1⟩;have hS2:=hS.Nq hS1;simp only [List.cons_append,List.nil_append] at hS2;clear hS hS1;(try clear w');have hS:=hS2;clear hS2;have hone3:=qB hvo1 (dY hS rv');refine ⟨_,rfl,?_⟩;intro a' l' hp hl;(try simp only [fr] at hp);(try simp only [sB] at hl);subst hp;subst hl;refine ⟨(St.aG hS),?_⟩);((refine wQ 8 (by kernel_rfl) rfl hS rfl  rfl rfl ?_;refine ⟨_,zd,?_⟩);clear hS;(try clear w');intro a' l' hp hl;(try simp only [fr] at hp);(try simp only [sB] at hl);subst hp;subst hl;intro w' hS;(try simp only [sE] at hS);refine ⟨(St.aG hS),?_⟩);refine wpAnyH_done (by kernel_rfl) ?_ _)))
 all_goals (
  obtain ⟨V2,hV2,hS3,hk2⟩:=hview.out _ _ _ hS
  obtain ⟨V2',hV2',hc4,hS4⟩:=pin hS3
  clear hS hS3
  have hS:=hS4
  clear hS4
  have hB2:Bs V2':=(hB1.mono hV2).mono hV2'
  have hk3:=jf hk2 hV2'
  have hr4:V2'.Range b4 0 [.slice va k.n vcap,rv']:=fun j v hj=>by rw [Nat.zero_add];exact hc4 j v hj
  have hr4l:([Value.slice va k.n vcap,rv']).length=2:=rfl
  have hmc2:=fun j hj=>((hmcell.out j hj).mono hV2).mono hV2'
  clear hk2 hc4
  replace hmc2:=aj hmc2
  go_wp2_with (fail)
  refine au (aA ?_)
  go_wp2_with (first | (((with_reducible refine gL ?_);refine zQ hS rfl rfl rfl ?_);refine ⟨_,zd,?_⟩;clear hS;(try clear w');intro a' hp;(try simp only [fr] at hp);subst hp;intro w' hS;(try simp only [sE] at hS)) | (go_at_call 53;refine PI hS hB2 hk3 hsv ?_;clear hS;(try clear w');intro V3 v7 w' hV3 hv7 hone7 hS))
  obtain ⟨ga,gcap,hvg,hgc,hgm,hge⟩:=hv7.is
  subst hvg
  have hB3:Bs V3:=hB2.mono hV3
  have hk7:=jf hk3 hV3
  have hr7:=hr4.mono hV3
  have hmc3:=fun j hj=>(hmc2.out j hj).mono hV3
  clear hr4 hk3 hone3
  replace hmc3:=aj hmc3
  refine au (aA ?_)
  go_wp2_with (fail)
  refine au (aA ?_)
  go_wp2_with (fail)
  go_loopw [9] (fun iv wr=>∃ i:Nat,i≤sl.length∧iv=.int .i64 (i:Int)∧St w [] V3 [] wr) (fun iv _=>sl.length - (intOf iv).toNat)
  case atStart=>exact ⟨0,by omega,rfl,hS.aG⟩
  case round =>
   clear hS
   obtain ⟨i,hi,rfl,hS⟩:=hrel
   have h0i:(0:Int)≤i:=by omega
   by_cases hlt:i < sl.length
   ·have hlt':(i:Int) < sl.length:=by omega
    obtain ⟨sg,so,hga,hsr⟩:=hge (by omega)
    subst hga
    have hcell9:=hsr i hlt 0 _ rfl
    simp only [Nat.mul_one,Nat.add_zero] at hcell9
    have hx:sl.getD i 0∈sl:=by
     rw [List.getD_eq_getElem?_getD,List.getElem?_eq_getElem hlt]
     exact List.getElem_mem hlt
    obtain ⟨u,M,hu,hun,hMw,hM40,hwu,hco,hbr⟩:=hcs.out _ hx
    rw [hu] at hcell9
    have hcellm:=hmc3.out u hun
    rw [hMw] at hcellm
    have h0u:(0:Int)≤u:=by omega
    have hun':(u:Int) < k.n:=by omega
    have hub:u < k1.n:=by omega
    have hbo:=Go.Wg.kP hpo hub
    have hb1:=hbo.pos
    have hb6:=hbo.le
    have hbl:(k1.branch u).rdg.length≤5:=by
     have:=wG k1 u k1.rdg.length
     show (kQ k1 u k1.rdg.length).length≤5
     omega
    have hbl':(((k1.branch u).rdg.length:Int) == 6)=false:=by rw [beq_eq_false_iff_ne];omega
    clear hge hsr hx hu hMw hbo
    replace hbr:=aj hbr
    go_wp2_with (first | (first | ((first | ((with_reducible refine gL ?_);first | refine nC hS rfl rfl rfl ?_ | refine zQ hS rfl rfl rfl ?_) | ((with_reducible refine gS ?_);refine bQ hS rfl rfl rfl ?_));refine ⟨_,zd,?_⟩;clear hS;(try clear w');intro a' hp;(try simp only [fr] at hp);subst hp;intro w' hS;(try simp only [sE] at hS)) | ((with_reducible refine gA ?_);refine aT 11 rfl hS rfl rfl ?_;clear hS;(try clear w');intro b11;intro a' hp;(try simp only [fr] at hp);subst hp;intro w' hS)) | (go_at_call 54;refine oq hS hB3 hk7 hwu ?_;clear hS;(try clear w');intro w' hS))
    (refine bF (S:=(St w [] V3 [.blk b11 27 [.int .i64 M,.int .i64 M]])) [false,false,false,false,false,false,false,false,false,false,false,false,false,false,false] rfl (by kernel_rfl) ?_;replace hS:=St.eY hS;(iterate 15 ((first | refine hxm 0 rfl ?_ | refine hxp 1 rfl ?_ | refine hxm 2 rfl ?_ | refine hxb 3 rfl ?_ | refine hxm 4 rfl ?_ | refine hxm 5 rfl ?_ | refine hxp 6 rfl ?_ | refine hxc 7 rfl ?_ | refine hxm 8 rfl ?_ | refine hxm 9 rfl ?_ | refine hxp 10 rfl ?_ | refine hxc 11 rfl ?_ | refine hxp 12 rfl ?_ | refine hxp 13 rfl ?_ | refine hxp 14 rfl ?_);intro a' l' hp hl;(try simp only [fr] at hp);(try simp only [sB] at hl);subst hp;subst hl));refine wpAnyH_done (by kernel_rfl) ?_ _)
    go_wp2_with (first | (first | ((first | ((with_reducible refine gL ?_);first | refine gY hS rfl rfl rfl ?_ | refine zQ hS rfl rfl rfl ?_) | ((with_reducible refine gS ?_);refine bQ hS rfl rfl rfl ?_));refine ⟨_,zd,?_⟩;clear hS;(try clear w');intro a' hp;(try simp only [fr] at hp);subst hp;intro w' hS;(try simp only [sE] at hS)) | ((with_reducible refine gA ?_);refine aT 13 rfl hS rfl rfl ?_;clear hS;(try clear w');intro b13;intro a' hp;(try simp only [fr] at hp);subst hp;intro w' hS)) | (go_at_call 35;refine (Rq hk7 hpo hub (St.view hS)).mono ?_;rintro _ w1 ⟨vv4,rv4,rfl,hS1⟩;obtain ⟨V4,hV4,hS2,hk4⟩:=Eh (k:=k1.branch u) (hS.Nq hS1) hg hB3 ⟨hb1,by omega,by omega⟩;have hvo4:=wO hk4.ves;obtain ⟨ra4,rc4,hra4,_⟩:=hk4.rdg.is;subst hra4;clear hS hS1;(try clear w');have hS:=hS2;clear hS2;have hone4:=qB (wO hk4.ves) (wO hk4.rdg)))
    have hwith2:∀ w,V4.In w→Calls Tryd.prog 41 #[.agg #[vv4,.slice ra4 (k1.branch u).rdg.length rc4],.agg #[.int .i64 0,.int .i64 0,.int .i64 (M:Int),.int .i64 0]] w fun e w'=>∃ rv',e=.returned (.agg #[vv4,rv'])∧St w [] V4 [.row rv' 59 4 (k1.cut u M).rdg.length (fH (k1.cut u M).rdg)] w':=fun w hV=>Qd hk4 ⟨0,0,M,0⟩ hV
    have hview2:∀ (rv':Value) (L:List dF) (w':World),St w [] V4 (.row rv' 59 4 (k1.cut u M).rdg.length (fH (k1.cut u M).rdg) :: L) w'→∃ V',(∀ j o,V4 j=some o→V' j=some o)∧St w [] V' L w'∧iJ V' vv4 rv' (k1.cut u M):=fun _ _ _ h=>xG (k:=k1.branch u) h hg hk4 (Nat.le_trans hco.rdl (by decide))
    have hcellm4:=hcellm.mono hV4
    clear hk4 hcellm hone4
    replace hwith2:=aj hwith2;replace hview2:=aj hview2
    (refine bF (S:=(St w [] V4 [])) [false,false,false,false,false,false,false,false] rfl (by kernel_rfl) ?_;replace hS:=St.eY hS;(iterate 4 ((first | refine hxm 1 rfl ?_ | refine hxm 2 rfl ?_ | refine hxp 3 rfl ?_ | refine hxc 4 rfl ?_);intro a' l' hp hl;(try simp only [fr] at hp);(try simp only [sB] at hl);subst hp;subst hl));(focus (refine nP 0 5 (by kernel_rfl) ?_ ?_;rotate_left;(refine DZ 5 rfl rfl ⟨_,_,zo,?_⟩;refine aH hS ⟨_,Xg _ _ _ _ _,?_⟩;clear hS;(try clear w');intro w' hS;refine ⟨_,rfl,?_⟩;intro a' l' hp hl;(try simp only [fr] at hp);(try simp only [sB] at hl);subst hp;subst hl;refine ⟨(St.aG hS),?_⟩);(refine YB 0 (by kernel_rfl) rfl hS rfl rfl rfl ?_;refine ⟨_,zd,?_⟩;clear hS;(try clear w');intro a' l' hp hl;(try simp only [fr] at hp);(try simp only [sB] at hl);subst hp;subst hl;intro w' hS;refine ⟨(St.aG hS),?_⟩);(refine oZ 6 (by kernel_rfl) rfl rfl ⟨_,_,zo,?_⟩;refine (hwith2.out _ (St.view hS)).mono ?_;rintro _ w1 ⟨rv5,rfl,hS1⟩;have hS2:=hS.Nq hS1;simp only [List.cons_append,List.nil_append] at hS2;clear hS hS1;(try clear w');have hS:=hS2;clear hS2;have hone5:=qB hvo4 (dY hS rv5);refine ⟨_,rfl,?_⟩;intro a' l' hp hl;(try simp only [fr] at hp);(try simp only [sB] at hl);subst hp;subst hl;refine ⟨(St.aG hS),?_⟩);((refine wQ 7 (by kernel_rfl) rfl hS rfl  rfl rfl ?_;refine ⟨_,zd,?_⟩);clear hS;(try clear w');intro a' l' hp hl;(try simp only [fr] at hp);(try simp only [sB] at hl);subst hp;subst hl;intro w' hS;(try simp only [sE] at hS);refine ⟨(St.aG hS),?_⟩);refine wpAnyH_done (by kernel_rfl) ?_ _;rotate_left;(refine WI 0 rfl hS rfl  rfl rfl ?_;refine ⟨_,zd,?_⟩;clear hS;(try clear w');intro a' l' hp hl;(try simp only [fr] at hp);(try simp only [sB] at hl);subst hp;subst hl;intro w' hS;refine ⟨(St.aG hS),?_⟩);(refine oZ 5 (by kernel_rfl) rfl rfl ⟨_,_,zo,?_⟩;refine aH hS ⟨_,Xg _ _ _ _ _,?_⟩;clear hS;(try clear w');intro w' hS;refine ⟨_,rfl,?_⟩;intro a' l' hp hl;(try simp only [fr] at hp);(try simp only [sB] at hl);subst hp;subst hl;refine ⟨(St.aG hS),?_⟩);(refine oZ 6 (by kernel_rfl) rfl rfl ⟨_,_,zo,?_⟩;refine (hwith2.out _ (St.view hS)).mono ?_;rintro _ w1 ⟨rv5,rfl,hS1⟩;have hS2:=hS.Nq hS1;simp only [List.cons_append,List.nil_append] at hS2;clear hS hS1;(try clear w');have hS:=hS2;clear hS2;have hone5:=qB hvo4 (dY hS rv5);refine ⟨_,rfl,?_⟩;intro a' l' hp hl;(try simp only [fr] at hp);(try simp only [sB] at hl);subst hp;subst hl;refine ⟨(St.aG hS),?_⟩);((refine wQ 7 (by kernel_rfl) rfl hS rfl  rfl rfl ?_;refine ⟨_,zd,?_⟩);clear hS;(try clear w');intro a' l' hp hl;(try simp only [fr] at hp);(try simp only [sB] at hl);subst hp;subst hl;intro w' hS;(try simp only [sE] at hS);refine ⟨(St.aG hS),?_⟩);refine wpAnyH_done (by kernel_rfl) ?_ _)))
    all_goals (
     obtain ⟨V5,hV5,hS3,hk5⟩:=hview2.out _ _ _ hS
     obtain ⟨V6,hV6,hc13,hS4⟩:=pin hS3
     clear hS hS3
     have hS:=hS4
     clear hS4
     have hV36:∀ j o,V3 j=some o→V6 j=some o:=fun j o h=>hV6 _ _ (hV5 _ _ (hV4 _ _ h))
     have hB6:Bs V6:=hB3.mono hV36
     have hk6':=jf hk5 hV6
     have hk76:=jf hk7 hV36
     have hr13:V6.Range b13 0 [vv4,rv5]:=fun j v hj=>by rw [Nat.zero_add];exact hc13 j v hj
     have hr13l:([vv4,rv5]).length=2:=rfl
     have hr76:=hr7.mono hV36
     have hz:=Ir hpo hub
     clear hk5 hc13 hone5
     go_wp2_with (fail)
     go_loopw [14,15] (fun av kv wr=>∃ q:Nat,u≤q∧q≤k.n∧kv=.int .i64 (q:Int)∧av=.int .i64 (cB k1 u q:Nat)∧St w [] V6 [] wr) (fun _ kv _=>k.n - (intOf kv).toNat)
     case atStart=>exact ⟨u,by omega,by omega,rfl,by rw [hz];rfl,hS.aG⟩
     case round =>
      clear hS
      obtain ⟨q,hq1,hq2,rfl,rfl,hS⟩:=hrel
      have h0q:(0:Int)≤q:=by omega
      by_cases hql:q < k.n
      ·have hql':(q:Int) < k.n:=by omega
       have hqb:q < k1.n:=by omega
       have hcs1:=yZ k1 u q
       have hcl:=VQ k1 u q
       have hbe:=fun w' hV'=>Wv (w:=w') hk76 hpo hqb hub hV'
       cases hb:inB k1 u q with
       | true =>
        obtain ⟨he,a,b,hwq⟩:=hbr.out q hql hb
        rw [hwq] at he
        rw [hb] at hbe hcs1
        rw [if_pos rfl] at hcs1
        generalize cB k1 u q=c at he hcs1 hcl ⊢
        replace hcs1:=aj hcs1;replace hb:=aj hb
        go_wp2_with (first | (first | ((first | ((with_reducible refine gL ?_);first | refine lW hS rfl rfl rfl ?_ | refine zQ hS rfl rfl rfl ?_) | ((with_reducible refine gS ?_);refine bQ hS rfl rfl rfl ?_));refine ⟨_,zd,?_⟩;clear hS;(try clear w');intro a' hp;(try simp only [fr] at hp);subst hp;intro w' hS;(try simp only [sE] at hS)) | (((with_reducible refine gA ?_);refine dM hS rfl rfl ?_);clear hS;(try clear w');intro _;intro a' hp;(try simp only [fr] at hp);subst hp;intro w' hS)) | (go_at_call 55;refine aH hS ⟨_,hbe _ (St.view hS),?_⟩;clear hS;(try clear w');intro w' hS) | (go_at_call 54;refine oq hS hB6 hk76 hwq ?_;clear hS;(try clear w');intro w' hS) | (go_at_call 54;refine oq hS hB6 hk6' he ?_;clear hS;(try clear w');intro w' hS))
        go_roundw
        case rel=>exact ⟨q+1,by omega,by omega,by go_num,by rw [hcs1.out];go_num,hS.aG⟩
        case measure=>simp only [intOf];omega
       | false =>
        rw [hb] at hbe hcs1
        rw [if_neg (by decide),Nat.add_zero] at hcs1
        generalize cB k1 u q=c at hcs1 hcl ⊢
        replace hcs1:=aj hcs1;replace hb:=aj hb
        go_wp2_with (first | (((with_reducible refine gL ?_);refine zQ hS rfl rfl rfl ?_);refine ⟨_,zd,?_⟩;clear hS;(try clear w');intro a' hp;(try simp only [fr] at hp);subst hp;intro w' hS;(try simp only [sE] at hS)) | (go_at_call 55;refine aH hS ⟨_,hbe _ (St.view hS),?_⟩;clear hS;(try clear w');intro w' hS))
        go_roundw
        case rel=>exact ⟨q+1,by omega,by omega,by go_num,by rw [hcs1.out];rfl,hS.aG⟩
        case measure=>simp only [intOf];omega
      ·obtain rfl:q=k.n:=by omega
       go_wp2_with (fail)
       go_roundw
       case rel=>exact ⟨i+1,by omega,by go_num,hS.weaken hV36⟩
       case measure=>simp only [intOf];omega)
   ·obtain rfl:i=sl.length:=by omega
    go_wp2_with (fail)
    refine au (ig ?_)
    exact bG (tgt:=[.inRegion ops9 [0,1],.code .ret]) ⟨rfl,rfl,hS.bM⟩)
set_option maxRecDepth 20000 in
theorem aaY {lv:Value} {l:List Int} (hB:Bs V) (hg:Go.Wg.gN≤w.heap.size) (hl:VI V lv l) (hV:V.In w) (hh:ay OC w):kL Tryd.prog 9 #[lv] w fun r w'=>r=.returned (.bool true)∧Kp w w' :=
 aaD (d:=148) (r:=2) (N:=149) (ops:=ops9) (k0:=[]) (o0:=ops9[0]!) (o1:=ops9[1]!) Tryd.func9 (show Tryd.f9.body=some B9 from rfl) (m:=148) (by kernel_rfl) (by kernel_rfl) (by kernel_rfl) rfl rfl rfl rfl rfl rfl (fun _ _=>rfl) rfl (by decide) (by decide) (by kernel_rfl)
  hB hV hh fun τ δ=>aby (w:=w.re τ δ) hB hg hl hV
end Go.Proofs.YtjjmefieegcddaaDoor
