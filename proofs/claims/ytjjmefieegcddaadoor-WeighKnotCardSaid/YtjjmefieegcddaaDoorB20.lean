/- A part of the proof: W83. -/
import Derived.Test.YtjjmefieegcddaaDoorB18
import Derived.Test.YtjjmefieegcddaaDoorB19
set_option linter.unusedVariables false
set_option linter.unusedSimpArgs false
namespace Go.Proofs.YtjjmefieegcddaaDoor
open Go.RowKit Go.Wg Go.Mm Go.Wk
open Go Go.Sr Go.Ph Go.Tm Go.Conc
variable {w:World} {V:View}
noncomputable def B4:Code:=match Tryd.f4.body with | some c=>c | none=>.skip
noncomputable def E4:Code:=match B4 with | .seq _ (.seq _ (.seq _ (.seq _ (.seq _ (.seq _ r)))))=>r | _=>.skip
noncomputable def ops4:Array Oper:=match E4 with | .seq (.region _ o _) _=>o | _=>#[]
def knB (k:Wk) (l:List Nat) (v q:Nat):Bool:=(l.getD v 0 == 0) && ((k.fills v).take q).all fun x=>l.getD x 0 != 0
theorem knB_succ (k:Wk) (l:List Nat) (v:Nat) {q:Nat} (hq:q < (k.fills v).length):knB k l v (q+1)=(knB k l v q && (l.getD ((k.fills v).getD q 0) 0 != 0)):=by
 unfold knB
 rw [List.take_add_one,List.getElem?_eq_getElem hq,List.all_append]
 simp [List.getD_eq_getElem?_getD,List.getElem?_eq_getElem hq,Bool.and_assoc]
theorem knB_all (k:Wk) (l:List Nat) (v:Nat):knB k l v (k.fills v).length=knotB k l v:=by
 unfold knB knotB
 rw [List.take_length]
theorem knB_zero (k:Wk) (l:List Nat) (v:Nat):knB k l v 0=!(l.getD v 0 != 0):=by
 unfold knB
 simp only [List.take_zero,List.all_nil,Bool.and_true,bne,Bool.not_not]
set_option maxRecDepth 40000 in
set_option maxHeartbeats 8000000 in
theorem knot1 {lv:Value} {l:List Int} (hB:Bs V) (hg:Go.Wg.gN≤w.heap.size) (hl:VI V lv l) (hV:V.In w):Rch Tryd.prog [.inRegion ops4 [0,1],.code .ret] (LawS 94 w) [.code B4] { tmps:=#[lv] ++ Array.replicate 93 undef,defers:=[] } w:=by
 have hS:=St.start w V hV
 obtain ⟨la,lcap,hlv,hlc,hlm,hle⟩:=hl.is
 clear hle hlc hlm
 subst hlv
 simp only [Array.replicate_succ,Array.replicate_zero,List.push_toArray,List.append_toArray,List.nil_append,List.cons_append]
 refine rch_seq (rch_code ?_)
 go_wp2_with (fail)
 refine rch_seq (rch_code ?_)
 go_wp2_with (first | (first | (((with_reducible refine gS ?_);refine qsall hS rfl rfl rfl ?_);refine ⟨_,zd,?_⟩;clear hS;(try clear w');intro a' hp;(try simp only [fr] at hp);subst hp;intro w' hS;(try simp only [sE] at hS)) | ((with_reducible refine gA ?_);refine qallocd 3 rfl hS rfl rfl ?_;clear hS;(try clear w');intro b3;intro a' hp;(try simp only [fr] at hp);subst hp;intro w' hS)) | (go_at_call 23;refine calls_new hS ⟨_,_,NewHat_ok ⟨_,_,_,rfl⟩,?_⟩;clear hS;(try clear w');intro bh w' hS) |
  (go_at_call 33;refine (WorksOf_ok (V:=V) ⟨⟨l,hl⟩,by decide,by decide⟩ (by decide) (by decide) (by decide) (St.view hS) (hS.off _ (List.mem_cons_self ..) bh rfl) (St.has1 hS)).mono ?_;rintro _ w1 ⟨k,vv,rv,c1,s1,rfl,hok,hkn,hrl,k1,k2,hS1⟩;obtain ⟨V1,hV1,hS2,hk⟩:=works_view (hS.comp (j:=0) rfl (hS1.perm (List.perm_append_comm (l₁:=[_,_]) (l₂:=[_])))) hg hB ⟨hok.pos,by have:=hok.le;omega,by omega⟩;clear hS hS1;(try clear w');have hS:=hS2;clear hS2;have hone2:=two_one (vsl_one hk.ves) (vsl_one hk.rdg)))
 have hB1:Bs V1:=hB.mono hV1
 have hk6:=hok.le
 have hkk:=hk
 obtain ⟨va,vcap,hvv,hvc,hvm,hve⟩:=hkk.ves.is
 subst hvv
 obtain ⟨V1',hV1',hc1,hS2⟩:=pin hS
 clear hS
 have hS:=hS2
 clear hS2 hkk hve
 have hB1':Bs V1':=hB1.mono hV1'
 have hk1:=wkIn_mono hk hV1'
 have hr3:V1'.Range b3 0 [.slice va k.n vcap,rv]:=fun j v hj=>by rw [Nat.zero_add];exact hc1 j v hj
 have hr3':([Value.slice va k.n vcap,rv]).length=2:=rfl
 refine rch_seq (rch_code ?_)
 go_wp2_with (first | (((with_reducible refine gL ?_);refine qvn hS rfl rfl rfl ?_);refine ⟨_,zd,?_⟩;clear hS;(try clear w');intro a' hp;(try simp only [fr] at hp);subst hp;intro w' hS;(try simp only [sE] at hS)) | (go_at_call 34;refine calls_knots hS hB1' hk1 (knots_val hok) ?_;clear hS;(try clear w');intro V2 v1 w' hV2 hv1 hone hS))
 have hB2:Bs V2:=hB1'.mono hV2
 have hk2:=wkIn_mono hk1 hV2
 have hrr:V2.Range b3 0 [.slice va k.n vcap,rv]:=hr3.mono hV2
 have hc3:V2.Cell b3 0 (.slice va k.n vcap):=(hc1 0 _ rfl).mono hV2
 have hck:=can_knots hok
 have hmk:=fun v hv=>mem_knots k (up k (nowS k noneB)) (v:=v) hv
 have hbr:=fun v hv=>branch_canE hok (v:=v) hv
 have hvl:(knotsTo k (up k (nowS k noneB)) k.n).length≤100:=by have:=knotsTo_len k (up k (nowS k noneB)) k.n;omega
 generalize up k (nowS k noneB)=U at hv1 hck hmk hbr hvl
 generalize knotsTo k U k.n=gl at hv1 hck hmk hvl
 obtain ⟨bb,hbb⟩:∃ bb:Bool,decide (gl.length=0)=bb:=⟨_,rfl⟩
 have hbx:(!bb == ((gl.length:Int) == 0))=false:=by
  rw [← hbb]
  by_cases h:gl.length=0
  ·simp [h]
  ·have:((gl.length:Int) == 0)=false:=by rw [beq_eq_false_iff_ne];omega
   simp [h,this]
 rw [hbb] at hck
 clear hr3 hc1 hk1 hk hB1 hB1' hB hV hbb
 replace hmk:=mkHid hmk;replace hbr:=mkHid hbr
 refine rch_seq (rch_code ?_)
 go_wp2_with (first | (((with_reducible refine gL ?_);refine qvn hS rfl rfl rfl ?_);refine ⟨_,zd,?_⟩;clear hS;(try clear w');intro a' hp;(try simp only [fr] at hp);subst hp;intro w' hS;(try simp only [sE] at hS)) | (go_at_call 25;refine calls_canB hS hB2 hk2 hck ?_;clear hS;(try clear w');intro w' hS))
 obtain ⟨ga,gcap,hvg,hgc,hgm,hge⟩:=hv1.is
 have hv1':=hv1
 subst hvg
 clear hge
 refine rch_seq (rch_code ?_)
 go_wp2_with (fail)
 refine rch_seq (rch_code ?_)
 go_wp2_with (fail)
 go_loopw [8] (fun iv wr=>∃ v:Nat,v≤k.n∧iv=.int .i64 (v:Int)∧St w [] V2 [] wr) (fun iv _=>k.n - (intOf iv).toNat)
 case atStart=>exact ⟨0,by omega,rfl,hS.subI⟩
 case round =>
  clear hS
  obtain ⟨v,hvn,rfl,hS⟩:=hrel
  have h0v:(0:Int)≤v:=by omega
  by_cases hlt:v < k.n
  ·have hlt':(v:Int) < k.n:=by omega
   have hbv:=hbr.out v hlt
   have hbk:=Go.Wg.branch_ok hok hlt
   have hb1:=hbk.pos
   have hb6:=hbk.le
   have hbr6:=hbk.rdl
   have hmv:=hmk.out v hlt
   have hz:=knB_zero k U v
   have hsu:=fun q hq=>knB_succ k U v (q:=q) hq
   have hal:=knB_all k U v
   have hfl:=fillsI_all k v
   have hfn:=fills_len k v
   have hfg:∀ q,q < (k.fills v).length→(k.fills v).getD q 0 < k.n:=fun q hq=>(fills_gt hok (i:=v) (by rw [List.getD_eq_getElem?_getD,List.getElem?_eq_getElem hq];exact List.getElem_mem hq)).2
   generalize (U.getD v 0 != 0)=bv at hbv hz
   generalize knotB k U v=kb at hmv hal
   generalize knB k U v=kq at hz hsu hal
   obtain ⟨F,hF⟩:∃ F,k.fills v=F:=⟨_,rfl⟩
   rw [hF] at hfl hfn hfg hsu hal
   have hFl:(fillsI k v k.n).length=F.length:=by rw [hfl,List.length_map]
   have hFi:∀ q,q < F.length→(fillsI k v k.n).getD q 0=((F.getD q 0:Nat):Int):=fun q hq=>by
    rw [hfl]
    simp [List.getD_eq_getElem?_getD,List.getElem?_eq_getElem hq]
   replace hsu:=mkHid hsu;replace hmv:=mkHid hmv;replace hfg:=mkHid hfg;replace hF:=mkHid hF;replace hFi:=mkHid hFi
   go_wp2_with (first | (((with_reducible refine gL ?_);first | refine qv1 hS rfl rfl rfl ?_ | refine qvn hS rfl rfl rfl ?_);refine ⟨_,zd,?_⟩;clear hS;(try clear w');intro a' hp;(try simp only [fr] at hp);subst hp;intro w' hS;(try simp only [sE] at hS)) | (go_at_call 35;refine (Branch_ok hk2 hok hlt (St.view hS)).mono ?_;rintro _ w1 ⟨vv',rv',rfl,hS1⟩;obtain ⟨V3,hV3,hS2,hk3⟩:=works_view (k:=k.branch v) (hS.comp0 hS1) hg hB2 ⟨hb1,by omega,by omega⟩;clear hS hS1;(try clear w');have hS:=hS2;clear hS2;have hB3:Bs V3:=hB2.mono hV3) | (go_at_call 25;refine calls_canB hS hB3 hk3 hbv ?_;clear hS;(try clear w');intro w' hS;replace hS:=hS.weaken hV3) |
    (go_at_call 36;refine calls_int1 hS (Fills_ok hk2 v (St.view hS)) ?_;clear hS;(try clear w');intro V4 v4 w' hV4 hv4 hone4 hS))
   obtain ⟨fa,fcap,hfv,hfc,hfm,hfe⟩:=hv4.is
   subst hfv
   rw [hFl] at hfe hfc
   have hB4:Bs V4:=hB2.mono hV4
   have hk4:=wkIn_mono hk2 hV4
   have hr4:=hrr.mono hV4
   rw [hFl]
   go_loopw [11,13] (fun kv iv wr=>∃ q:Nat,q≤F.length∧iv=.int .i64 (q:Int)∧kv=.bool (kq q)∧St w [] V4 [] wr) (fun _ iv _=>F.length - (intOf iv).toNat)
   case atStart=>exact ⟨0,by omega,rfl,by rw [hz],hS.subI⟩
   case round =>
    clear hS
    obtain ⟨q,hq,rfl,rfl,hS⟩:=hrel
    have h0q:(0:Int)≤q:=by omega
    by_cases hql:q < F.length
    ·have hql':(q:Int) < F.length:=by omega
     obtain ⟨fg,fo,hfa,hfr⟩:=hfe (by omega)
     subst hfa
     have hcell:=hfr q hql 0 _ rfl
     simp only [Nat.mul_one,Nat.add_zero] at hcell
     rw [hFi.out q hql] at hcell
     have hx:=hfg.out q hql
     have hsq:=hsu.out q hql
     generalize F.getD q 0=x at hcell hx hsq
     have hbx':=hbr.out x hx
     generalize (U.getD x 0 != 0)=bx at hbx' hsq
     have hbo:=Go.Wg.branch_ok hok hx
     have hbo1:=hbo.pos
     have hbo6:=hbo.le
     have hbr6':=hbo.rdl
     clear hfe hfr
     cases hkq:kq q
     all_goals (
      simp only [hkq,Bool.true_and,Bool.false_and] at hsq
      replace hsq:=mkHid hsq;replace hkq:=mkHid hkq
      go_wp2_with (fail)
      (refine held_start (S:=(St w [] V4 [])) [false,false,false,false,false,false,false,false,false,false,false,false] rfl (by kernel_rfl) ?_;replace hS:=St.drew1 hS;(iterate 5 ((first | refine hxd 0 rfl ?_ | refine hxm 1 rfl ?_ | refine hxm 2 rfl ?_ | refine hxp 3 rfl ?_ | refine hxc 4 rfl ?_);intro a' l' hp hl;(try simp only [fr] at hp);(try simp only [sB] at hl);subst hp;subst hl));(refine he_calls 5 (by kernel_rfl) rfl rfl ⟨_,_,zo,?_⟩;refine (Branch_ok hk4 hok hx (St.view hS)).mono ?_;rintro _ w1 ⟨vv',rv',rfl,hS1⟩;obtain ⟨V5,hV5,hS2,hk5⟩:=works_view (k:=k.branch x) (hS.comp0 hS1) hg hB4 ⟨hbo1,by omega,by omega⟩;clear hS hS1;(try clear w');have hS:=hS2;clear hS2;refine ⟨_,rfl,?_⟩;intro a' l' hp hl;(try simp only [fr] at hp);(try simp only [sB] at hl);subst hp;subst hl;refine ⟨(hS.weaken hV5).subI,?_⟩);(refine he_calls 6 (by kernel_rfl) rfl rfl ⟨_,_,zo,?_⟩;refine calls_canB hS (hB4.mono hV5) hk5 hbx' ?_;clear hS;(try clear w');intro w' hS;replace hS:=hS.weaken hV5;refine ⟨_,rfl,?_⟩;intro a' l' hp hl;(try simp only [fr] at hp);(try simp only [sB] at hl);subst hp;subst hl;refine ⟨hS.subI,?_⟩);(iterate 5 ((first | refine hxm 7 rfl ?_ | refine hxp 8 rfl ?_ | refine hxp 9 rfl ?_ | refine hxp 10 rfl ?_ | refine hxp 11 rfl ?_);intro a' l' hp hl;(try simp only [fr] at hp);(try simp only [sB] at hl);subst hp;subst hl));refine wpAnyH_done (by kernel_rfl) ?_ _)
      go_wp2_with (fail)
      go_roundw
      case rel=>exact ⟨q+1,by omega,by go_num,by rw [hsq.out],hS.subI⟩
      case measure=>simp only [intOf];omega)
    ·obtain rfl:q=F.length:=by omega
     rw [hal]
     replace hS:=hS.weaken hV4
     cases hkb:kb with
     | true =>
      have hm:=hmv.out.2 hkb
      go_wp2_with (go_at_call 37;refine (Find_ok hv1' hvl _ (St.view hS)).mono ?_;rintro _ w1 ⟨x,rfl,hx,hkp⟩;replace hS:=hS.kp hkp;clear hkp;have hx':0≤x:=hx.2 hm;clear hx)
      go_roundw
      case rel=>exact ⟨v+1,by omega,by go_num,hS⟩
      case measure=>simp only [intOf];omega
     | false =>
      have hm:¬ (v:Int)∈gl:=fun h=>by
       have:=hmv.out.1 h
       rw [hkb] at this
       cases this
      go_wp2_with (go_at_call 37;refine (Find_ok hv1' hvl _ (St.view hS)).mono ?_;rintro _ w1 ⟨x,rfl,hx,hkp⟩;replace hS:=hS.kp hkp;clear hkp;have hx':¬ 0≤x:=(fun h=>hm (hx.1 h));clear hx)
      go_roundw
      case rel=>exact ⟨v+1,by omega,by go_num,hS⟩
      case measure=>simp only [intOf];omega
  ·obtain rfl:v=k.n:=by omega
   go_wp2_with (((with_reducible refine gL ?_);refine qv1 hS rfl rfl rfl ?_);refine ⟨_,zd,?_⟩;clear hS;(try clear w');intro a' hp;(try simp only [fr] at hp);subst hp;intro w' hS;(try simp only [sE] at hS))
   refine rch_seq (rch_region ?_)
   exact rch_here (tgt:=[.inRegion ops4 [0,1],.code .ret]) ⟨rfl,rfl,hS.toKp⟩
set_option maxRecDepth 20000 in
theorem knot_B {lv:Value} {l:List Int} (hB:Bs V) (hg:Go.Wg.gN≤w.heap.size) (hl:VI V lv l) (hV:V.In w) (hh:HeapOk OC w):CallsB Tryd.prog 4 #[lv] w fun r w'=>r=.returned (.bool true)∧Kp w w' :=
 law_B (d:=93) (r:=2) (N:=94) (ops:=ops4) (k0:=[]) (o0:=ops4[0]!) (o1:=ops4[1]!) Tryd.func4 (show Tryd.f4.body=some B4 from rfl) (m:=93) (by kernel_rfl) (by kernel_rfl) (by kernel_rfl) rfl rfl rfl rfl rfl rfl (fun _ _=>rfl) rfl (by decide) (by decide) (by kernel_rfl)
  hB hV hh fun τ δ=>knot1 (w:=w.re τ δ) hB hg hl hV
end Go.Proofs.YtjjmefieegcddaaDoor
