/- A part of the proof: W90, W115, W116. -/
import Derived.Test.YtjjmefieegcddaaDoorL14
import Derived.Test.YtjjmefieegcddaaDoorL15
import Derived.Test.YtjjmefieegcddaaDoorL09
set_option linter.unusedVariables false
set_option linter.unusedSimpArgs false
set_option maxHeartbeats 8000000
set_option maxRecDepth 20000
namespace Go.Proofs.YtjjmefieegcddaaDoor
open Go.RowKit Go.Wg Go.Mm Go.Wk
open Go Go.Sr Go.Ph Go.Tm Go.Conc
variable {w w0:World} {V:View}
noncomputable def B12:Code:=match Tryd.f12.body with|some c=>c|none=>.skip
noncomputable def ah8:Code:=match B12 with | .seq _ (.seq _ (.seq _ r))=>r|_=>.skip
noncomputable def ahR:Code:=match ah8 with | .seq _ r=>r|_=>.skip
noncomputable def aiJ:Code:=match ah8 with | .seq (.seq _ (.cond _ (.seq _ r) _)) _=>r|_=>.skip
noncomputable def aii:Array Oper:=match aiJ with | .seq (.region _ o _) _=>o|_=>#[]
noncomputable def aiG:Code:=match ahR with | .seq _ r=>r|_=>.skip
noncomputable def aif:Array Oper:=match aiG with | .seq (.region _ o _) _=>o|_=>#[]
theorem aga {X:List Nat} {L:List dF} {vv rv:Value} {k:Wk} {R:Ending->World->Prop} {a b d e:Int} (hS:St w0 X V L w) (hB:Bs V) (hk:iJ V vv rv k) (hv:ahl k a b=(d,e))
  (h:∀ w',St w0 X V L w'->R (.returned (.tuple #[.int .i64 d,.int .i64 e])) w'):Calls Tryd.prog 62 #[.agg #[vv,rv],.int .i64 a,.int .i64 b] w R:=by
 have hc:=ahZ vv rv k hk hB.gv hS.view a b
 rw[hv]at hc
 exact aH hS ⟨_,hc,h⟩
theorem ahU {X:List Nat} {L:List dF} {f:FuncId} {args:Array Value} {R:Ending->World->Prop} {l1 l2:List (List Int)} (hS:St w0 X V L w) (hc:Calls Tryd.prog f args w fun e w'=>∃ v1 v2 V',e=.returned (.tuple #[v1,v2])/\afV w V V'/\St w [] V' [] w'/\VLL V' v1 l1/\VLL V' v2 l2)
  (h:∀ (V':View) (v1 v2:Value) (w':World),(∀ j o,V j=some o->V' j=some o)->VLL V' v1 l1->VLL V' v2 l2->v1.oneCell'=true->v2.oneCell'=true->St w0 X V' L w'->R (.returned (.tuple #[v1,v2])) w'):Calls Tryd.prog f args w R :=
 hc.mono fun e w' ⟨v1,v2,V',he,hV,hS',h1,h2⟩=>by
  subst he
  exact h V' v1 v2 w' hV.up h1 h2 h1.one h2.one (hS.ahu hS' hV)
set_option maxRecDepth 40000 in
theorem ahN {k:Wk} {vv rv lv v4:Value} {b3:Nat} (hB:Bs V) (hk:iJ V vv rv k) (hok:k.Ok) (h4:k.n<=4) (hr:∀ i,i < k.n->(k.v i).room<=6) (hr3:V.Range b3 0 [vv,rv]) (hl4:VLL V v4 (jv k)) (hne:jv k≠[]) (w:World) (hS:St w0 [] V [] w) (u1 u5 u6 u7 u8 u9 u10 u11 u12 u13 u14 u15 u16 u17 u18 u19 u20 u21 u22 u23 u24 u25 u26 u27 u28 u29 u30 u31 u32 u33 u34 u35 u36 u37 u38 u39 u40 u41 u42 u43 u44 u45 u46 u47 u48 u49 u50 u51 u52 u53 u54 u55 u56 u57 u58 u59 u60 u61 u62 u63 u64 u65 u66 u67 u68 u69 u70 u71 u72 u73 u74 u75 u76 u77 u78 u79 u80 u81 u82 u83 u84 u85 u86 u87 u88 u89 u90 u91 u92 u93 u94 u95 u96 u97 u98 u99 u100 u101 u102 u103 u104 u105 u106 u107 u108 u109 u110 u111 u112 u113 u114:Value) :
  RB 12 (fun r w'=>r=.returned (.bool true)/\Kp w0 w') [.code ahR] ⟨#[lv,u1,.bool false,.pointer (some ⟨b3,0,none⟩),v4,u5,u6,u7,u8,u9,u10,u11,u12,u13,u14,u15,u16,u17,u18,u19,u20,u21,u22,u23,u24,u25,u26,u27,u28,u29,u30,u31,u32,u33,u34,u35,u36,u37,u38,u39,u40,u41,u42,u43,u44,u45,u46,u47,u48,u49,u50,u51,u52,u53,u54,u55,u56,u57,u58,u59,u60,u61,u62,u63,u64,u65,u66,u67,u68,u69,u70,u71,u72,u73,u74,u75,u76,u77,u78,u79,u80,u81,u82,u83,u84,u85,u86,u87,u88,u89,u90,u91,u92,u93,u94,u95,u96,u97,u98,u99,u100,u101,u102,u103,u104,u105,u106,u107,u108,u109,u110,u111,u112,u113,u114],[]⟩ w:=by
 have hdue:=fun a b ha hb=>ah4 hok hr hne (a:=a) (b:=b) ha hb
 have hanti:=fun a b h=>aia hne (a:=a) (b:=b) h
 have hdE:∀ a b,ah1 k a b=if ahm k a b (jv k).length=0 then 2 else if ahm k a b (jv k).length=(jv k).length then 1 else 3:=fun a b=>rfl
 have hsu:=fun a b m hm=>ah0 k a b (m:=m) hm
 have hcl:=fun a b m=>ah9 k a b m
 have hz:∀ a b,ahm k a b 0=0:=fun a b=>rfl
 have hlen:(jv k).length<=2401:=by
  have h1:=ahs k (agN 7 k.n).length
  rw[aht,ahB]at h1
  exact Nat.le_trans h1 (Nat.le_trans (Nat.pow_le_pow_right (by decide) h4) (by decide))
 have hel:∀ i,i<(jv k).length->((jv k).getD i []).length=k.n:=fun i hi=>by
  rw[List.getD_eq_getElem?_getD,List.getElem?_eq_getElem hi]
  exact((ahk hr).1 (List.getElem_mem hi)).len
 obtain⟨us,hu1,hu2,hu3⟩:=hl4.is
 obtain⟨oa,ocap,hov,hoc,hom,hoe⟩:=hu2.is
 subst hov
 generalize ahm k=C at hdE hsu hcl hz
 generalize ah1 k=D at hdue hanti hdE
 have hN0:0<(jv k).length:=List.length_pos_iff.2 hne
 generalize jv k=A at hdE hsu hel hu1 hu2 hu3 hoc hoe hlen hN0 hl4
 obtain⟨va,vcap,hvv,hvc,hvm,hve⟩:=id hk.ves.is
 subst hvv
 have hc3:V.Cell b3 0 (.slice va k.n vcap):=hr3 0 _ rfl
 have hr3':([Value.slice va k.n vcap,rv]).length=2:=rfl
 obtain⟨og,oo,hoa,hor⟩:=hoe hN0
 subst hoa
 clear hl4 hu2 hve hoe
 replace hdue:=aj hdue;replace hanti:=aj hanti;replace hdE:=aj hdE;replace hsu:=aj hsu;replace hel:=aj hel;replace hu3:=aj hu3;replace hor:=aj hor;replace hcl:=aj hcl
 refine abr (tgt:=[.inRegion aif [0,1],.code .ret]) (by kernel_rfl) rfl hS ?_
 clear hS;intro w' hS
 refine au (aA ?_)
 go_wp2_with (fail)
 go_loopw [8] (fun iv wr=>∃ a:Nat,a<=k.n/\iv=.int .i64 (a:Int)/\St w0 [] V [] wr) (fun iv _=>k.n-(intOf iv).toNat)
 case atStart=>exact⟨0,by omega,rfl,hS.aG⟩
 case round =>
  clear hS
  obtain⟨a,ha,rfl,hS⟩:=hrel
  have h0a:(0:Int)<=a:=by omega
  by_cases hlta:a<k.n
  ·have hlta':(a:Int) < k.n:=by omega
   go_wp2_with (((with_reducible refine gL ?_);refine nC hS rfl rfl rfl ?_);refine⟨_,zd,?_⟩;clear hS;(try clear w');refine zF ?_;intro w' hS)
   go_loopw [9] (fun iv wr=>∃ b:Nat,b<=k.n/\iv=.int .i64 (b:Int)/\St w0 [] V [] wr) (fun iv _=>k.n-(intOf iv).toNat)
   case atStart=>exact⟨0,by omega,rfl,hS.aG⟩
   case round =>
    clear hS
    obtain⟨b,hb,rfl,hS⟩:=hrel
    have h0b:(0:Int)<=b:=by omega
    by_cases hltb:b<k.n
    ·have hltb':(b:Int) < k.n:=by omega
     have hCz:=hz a b
     go_wp2_with (((with_reducible refine gL ?_);refine nC hS rfl rfl rfl ?_);refine⟨_,zd,?_⟩;clear hS;(try clear w');refine zF ?_;intro w' hS)
     go_loopw [10,11] (fun nv iv wr=>∃ i:Nat,i<=A.length/\iv=.int .i64 (i:Int)/\nv=.int .i64 ((C a b i:Nat):Int)/\St w0 [] V [] wr) (fun _ iv _=>A.length-(intOf iv).toNat)
     case atStart=>exact⟨0,by omega,rfl,by rw[hCz];rfl,hS.aG⟩
     case round =>
      clear hS
      obtain⟨i,hi,rfl,rfl,hS⟩:=hrel
      have h0i:(0:Int)<=i:=by omega
      by_cases hlti:i<A.length
      ·have hlti':(i:Int) < A.length:=by omega
       have hcell:=hor.out i hlti 0 _ rfl
       simp only[Nat.mul_one,Nat.add_zero]at hcell
       have hvi:=hu3.out i hlti
       have hl1:=hel.out i hlti
       have hs1:=hsu.out a b i hlti
       have hcb:=hcl.out a b i
       generalize us.getD i undef=u at hcell hvi
       generalize A.getD i []=l at hvi hl1 hs1
       obtain⟨la,lcap,hlv,hlc,hlm,hle⟩:=hvi.is
       rw[hl1]at hlv hlc hle
       subst hlv
       obtain⟨lg,lo,hla,hlr⟩:=hle (by omega)
       subst hla
       have hca:=hlr a hlta 0 _ rfl
       have hcb2:=hlr b hltb 0 _ rfl
       simp only[Nat.mul_one,Nat.add_zero]at hca hcb2
       generalize l.getD a 0=x at hca hs1
       generalize l.getD b 0=y at hcb2 hs1
       generalize hz1:C a b (i+1)=z at hs1
       generalize C a b i=c at hs1 hcb
       clear hvi hle hlr
       by_cases hxy:y<x
       ·have hd:decide (y < x)=true:=decide_eq_true hxy
        rw[if_pos hxy]at hs1
        subst hs1
        replace hz1:=aj hz1
        go_wp2_with (fail)
        (refine bF (S:=(St w0 [] V [])) [false,false,false,false,false,false,false,false,false,false,false,false,false,false,false] rfl (by kernel_rfl) ?_;replace hS:=St.eY hS;(repeat' ((with_reducible refine gHd ?_);(first|(refine aar 0 rfl (by kernel_rfl) (by kernel_rfl) (by decide +kernel) rfl rfl (fun _ _ _ h=>nomatch h.1) rfl (St.aG hS) ?_;refine zH ?_)|(refine aar 1 rfl (by kernel_rfl) (by kernel_rfl) (by decide +kernel) rfl rfl (fun _ _ _ h=>nomatch h.1) rfl (St.aG hS) ?_;refine zH ?_)|(refine dw 2 rfl (by kernel_rfl) (by kernel_rfl) (by decide +kernel) (fun _ _ _ _ h=>nomatch h.1) rfl (St.aG hS) ?_;refine⟨_,zp,?_⟩;refine zH ?_)|((refine aax 3 rfl (by kernel_rfl) (by kernel_rfl) (by decide +kernel) (fun _ _ _ _ h=>nomatch h.1) rfl (St.aG hS) rfl rfl ?_);refine⟨_,zd,?_⟩;refine zH ?_)|(refine aar 4 rfl (by kernel_rfl) (by kernel_rfl) (by decide +kernel) rfl rfl (fun _ _ _ h=>nomatch h.1) rfl (St.aG hS) ?_;refine zH ?_)|(refine dw 5 rfl (by kernel_rfl) (by kernel_rfl) (by decide +kernel) (fun _ _ _ _ h=>nomatch h.1) rfl (St.aG hS) ?_;refine⟨_,zp,?_⟩;refine zH ?_)|((refine aax 6 rfl (by kernel_rfl) (by kernel_rfl) (by decide +kernel) (fun _ _ _ _ h=>nomatch h.1) rfl (St.aG hS) rfl rfl ?_);refine⟨_,zd,?_⟩;refine zH ?_)|(refine aar 7 rfl (by kernel_rfl) (by kernel_rfl) (by decide +kernel) rfl rfl (fun _ _ _ h=>nomatch h.1) rfl (St.aG hS) ?_;refine zH ?_)|(refine aar 8 rfl (by kernel_rfl) (by kernel_rfl) (by decide +kernel) rfl rfl (fun _ _ _ h=>nomatch h.1) rfl (St.aG hS) ?_;refine zH ?_)|(refine dw 9 rfl (by kernel_rfl) (by kernel_rfl) (by decide +kernel) (fun _ _ _ _ h=>nomatch h.1) rfl (St.aG hS) ?_;refine⟨_,zp,?_⟩;refine zH ?_)|((refine aax 10 rfl (by kernel_rfl) (by kernel_rfl) (by decide +kernel) (fun _ _ _ _ h=>nomatch h.1) rfl (St.aG hS) rfl rfl ?_);refine⟨_,zd,?_⟩;refine zH ?_)|(refine aar 11 rfl (by kernel_rfl) (by kernel_rfl) (by decide +kernel) rfl rfl (fun _ _ _ h=>nomatch h.1) rfl (St.aG hS) ?_;refine zH ?_)|(refine dw 12 rfl (by kernel_rfl) (by kernel_rfl) (by decide +kernel) (fun _ _ _ _ h=>nomatch h.1) rfl (St.aG hS) ?_;refine⟨_,zp,?_⟩;refine zH ?_)|((refine aax 13 rfl (by kernel_rfl) (by kernel_rfl) (by decide +kernel) (fun _ _ _ _ h=>nomatch h.1) rfl (St.aG hS) rfl rfl ?_);refine⟨_,zd,?_⟩;refine zH ?_)|(refine dw 14 rfl (by kernel_rfl) (by kernel_rfl) (by decide +kernel) (fun _ _ _ _ h=>nomatch h.1) rfl (St.aG hS) ?_;refine⟨_,zp,?_⟩;refine zH ?_)|refine wpAnyH_done (by decide +kernel) ?_ _))))
        go_wp2_with (fail)
        go_roundw
        case rel=>exact⟨i+1,by omega,by go_num,by rw[hz1.out];go_num,hS.aG⟩
        case measure=>simp only[intOf];omega
       ·have hd:decide (y < x)=false:=decide_eq_false hxy
        rw[if_neg hxy,Nat.add_zero]at hs1
        subst hs1
        replace hz1:=aj hz1
        go_wp2_with (fail)
        (refine bF (S:=(St w0 [] V [])) [false,false,false,false,false,false,false,false,false,false,false,false,false,false,false] rfl (by kernel_rfl) ?_;replace hS:=St.eY hS;(repeat' ((with_reducible refine gHd ?_);(first|(refine aar 0 rfl (by kernel_rfl) (by kernel_rfl) (by decide +kernel) rfl rfl (fun _ _ _ h=>nomatch h.1) rfl (St.aG hS) ?_;refine zH ?_)|(refine aar 1 rfl (by kernel_rfl) (by kernel_rfl) (by decide +kernel) rfl rfl (fun _ _ _ h=>nomatch h.1) rfl (St.aG hS) ?_;refine zH ?_)|(refine dw 2 rfl (by kernel_rfl) (by kernel_rfl) (by decide +kernel) (fun _ _ _ _ h=>nomatch h.1) rfl (St.aG hS) ?_;refine⟨_,zp,?_⟩;refine zH ?_)|((refine aax 3 rfl (by kernel_rfl) (by kernel_rfl) (by decide +kernel) (fun _ _ _ _ h=>nomatch h.1) rfl (St.aG hS) rfl rfl ?_);refine⟨_,zd,?_⟩;refine zH ?_)|(refine aar 4 rfl (by kernel_rfl) (by kernel_rfl) (by decide +kernel) rfl rfl (fun _ _ _ h=>nomatch h.1) rfl (St.aG hS) ?_;refine zH ?_)|(refine dw 5 rfl (by kernel_rfl) (by kernel_rfl) (by decide +kernel) (fun _ _ _ _ h=>nomatch h.1) rfl (St.aG hS) ?_;refine⟨_,zp,?_⟩;refine zH ?_)|((refine aax 6 rfl (by kernel_rfl) (by kernel_rfl) (by decide +kernel) (fun _ _ _ _ h=>nomatch h.1) rfl (St.aG hS) rfl rfl ?_);refine⟨_,zd,?_⟩;refine zH ?_)|(refine aar 7 rfl (by kernel_rfl) (by kernel_rfl) (by decide +kernel) rfl rfl (fun _ _ _ h=>nomatch h.1) rfl (St.aG hS) ?_;refine zH ?_)|(refine aar 8 rfl (by kernel_rfl) (by kernel_rfl) (by decide +kernel) rfl rfl (fun _ _ _ h=>nomatch h.1) rfl (St.aG hS) ?_;refine zH ?_)|(refine dw 9 rfl (by kernel_rfl) (by kernel_rfl) (by decide +kernel) (fun _ _ _ _ h=>nomatch h.1) rfl (St.aG hS) ?_;refine⟨_,zp,?_⟩;refine zH ?_)|((refine aax 10 rfl (by kernel_rfl) (by kernel_rfl) (by decide +kernel) (fun _ _ _ _ h=>nomatch h.1) rfl (St.aG hS) rfl rfl ?_);refine⟨_,zd,?_⟩;refine zH ?_)|(refine aar 11 rfl (by kernel_rfl) (by kernel_rfl) (by decide +kernel) rfl rfl (fun _ _ _ h=>nomatch h.1) rfl (St.aG hS) ?_;refine zH ?_)|(refine dw 12 rfl (by kernel_rfl) (by kernel_rfl) (by decide +kernel) (fun _ _ _ _ h=>nomatch h.1) rfl (St.aG hS) ?_;refine⟨_,zp,?_⟩;refine zH ?_)|((refine aax 13 rfl (by kernel_rfl) (by kernel_rfl) (by decide +kernel) (fun _ _ _ _ h=>nomatch h.1) rfl (St.aG hS) rfl rfl ?_);refine⟨_,zd,?_⟩;refine zH ?_)|(refine dw 14 rfl (by kernel_rfl) (by kernel_rfl) (by decide +kernel) (fun _ _ _ _ h=>nomatch h.1) rfl (St.aG hS) ?_;refine⟨_,zp,?_⟩;refine zH ?_)|refine wpAnyH_done (by decide +kernel) ?_ _))))
        go_wp2_with (fail)
        go_roundw
        case rel=>exact⟨i+1,by omega,by go_num,by rw[hz1.out],hS.aG⟩
        case measure=>simp only[intOf];omega
      ·obtain rfl:i=A.length:=by omega
       have hv1:=hdue.out a b hlta hltb
       have hv2:=hdue.out b a hltb hlta
       have han:=hanti.out a b
       have hde:=hdE.out a b
       generalize C a b A.length=c at hde
       generalize D b a=d2 at hv2 han
       generalize D a b=d1 at hv1 han hde
       by_cases hc0:c=0
       ·subst hc0
        rw[if_pos rfl]at hde
        subst hde
        clear han
        go_wp2_with (first|(((with_reducible refine gL ?_);refine zQ hS rfl rfl rfl ?_);refine⟨_,zd,?_⟩;clear hS;(try clear w');refine zF ?_;intro w' hS)|(go_at_call 62;first|(refine aga hS hB hk hv1 ?_;clear hS;(try clear w');intro w' hS)|(refine aga hS hB hk hv2 ?_;clear hS;(try clear w');intro w' hS)))
        go_roundw
        case rel=>exact⟨b+1,by omega,by go_num,hS.aG⟩
        case measure=>simp only[intOf];omega
       ·have hq1:((c:Int) == 0)=false:=by rw [beq_eq_false_iff_ne];omega
        rw[if_neg hc0]at hde
        by_cases hcA:c=A.length
        ·subst hcA
         rw[if_pos rfl]at hde
         subst hde
         have h2:=han rfl
         subst h2
         clear han
         go_wp2_with (first|(((with_reducible refine gL ?_);refine zQ hS rfl rfl rfl ?_);refine⟨_,zd,?_⟩;clear hS;(try clear w');refine zF ?_;intro w' hS)|(go_at_call 62;first|(refine aga hS hB hk hv1 ?_;clear hS;(try clear w');intro w' hS)|(refine aga hS hB hk hv2 ?_;clear hS;(try clear w');intro w' hS)))
         go_roundw
         case rel=>exact⟨b+1,by omega,by go_num,hS.aG⟩
         case measure=>simp only[intOf];omega
        ·have hq2:((c:Int) == (A.length:Int))=false:=by rw [beq_eq_false_iff_ne];omega
         rw[if_neg hcA]at hde
         subst hde
         clear han
         go_wp2_with (first|(((with_reducible refine gL ?_);refine zQ hS rfl rfl rfl ?_);refine⟨_,zd,?_⟩;clear hS;(try clear w');refine zF ?_;intro w' hS)|(go_at_call 62;first|(refine aga hS hB hk hv1 ?_;clear hS;(try clear w');intro w' hS)|(refine aga hS hB hk hv2 ?_;clear hS;(try clear w');intro w' hS)))
         go_roundw
         case rel=>exact⟨b+1,by omega,by go_num,hS.aG⟩
         case measure=>simp only[intOf];omega
    ·obtain rfl:b=k.n:=by omega
     go_wp2_with (((with_reducible refine gL ?_);refine nC hS rfl rfl rfl ?_);refine⟨_,zd,?_⟩;clear hS;(try clear w');refine zF ?_;intro w' hS)
     go_roundw
     case rel=>exact⟨a+1,by omega,by go_num,hS.aG⟩
     case measure=>simp only[intOf];omega
  ·obtain rfl:a=k.n:=by omega
   go_wp2_with (((with_reducible refine gL ?_);refine nC hS rfl rfl rfl ?_);refine⟨_,zd,?_⟩;clear hS;(try clear w');refine zF ?_;intro w' hS)
   refine au (ig (bG (tgt:=[.inRegion aif [0,1],.code .ret]) ?_))
   refine acy 114 hS hB rfl rfl rfl rfl rfl rfl ?_
   clear hS;(try clear w');intro w' a' hS hp
   simp only[fr]at hp
   subst hp
   refine abr (tgt:=[.code .ret]) (by kernel_rfl) rfl hS ?_
   clear hS;(try clear w');intro w' hS
   refine abe 1 rfl ?_
   simp only[List.drop_succ_cons,List.drop_zero]
   go_wp2_with (fail)
   refine dH (bG (tgt:=[.code .ret]) ?_)
   exact ac2 Tryd.func12 hS rfl (fun w=>bH (r1:=.tmp 2) (by kernel_rfl) (bD rfl))
end Go.Proofs.YtjjmefieegcddaaDoor
namespace Go.Wg
open Go Go.Mm Go.Proofs.YtjjmefieegcddaaDoor
theorem ah3 {k:Wk} (hok:k.Ok) (hr:∀ i,i<k.n->(k.v i).room<=6) (hn:jv k=[]):ahl k 0 0=(0,9):=by
 have hpos:=hok.pos
 have hc:¬ (settle k (aN k aC)).isNone=true:=fun h=>(ahy hok hr).1 h hn
 unfold ahl
 rw[if_pos (G7 hok [0,0] fun n hn=>by
  have:n=0:=by simpa using hn
  omega),if_neg hc]
end Go.Wg
namespace Go.Proofs.YtjjmefieegcddaaDoor
open Go.RowKit Go.Wg Go.Mm Go.Wk
open Go Go.Sr Go.Ph Go.Tm Go.Conc
variable {w w0:World} {V:View}
theorem VLL.len0 {v:Value} (h:VLL V v []):∃ a cap,v=.slice a 0 cap:=by
 obtain⟨us,h1,h2,h3⟩:=h.is
 obtain⟨a,cap,h4,_⟩:=h2.is
 exact⟨a,cap,h4⟩
theorem VLL.lens {v:Value} {ls:List (List Int)} (h:VLL V v ls):∃ a cap,v=.slice a ls.length cap:=by
 obtain⟨us,h1,h2,h3⟩:=h.is
 obtain⟨a,cap,h4,_⟩:=h2.is
 exact⟨a,cap,h4⟩
set_option maxRecDepth 40000 in
theorem ahI {lv:Value} {l:List Int} (hB:Bs V) (hg:Go.Wg.gN<=w.heap.size) (hl:VI V lv l) (hV:V.In w):RB 12 (fun r w'=>r=.returned (.bool true)/\Kp w w') [.code B12] ⟨#[lv] ++ Array.replicate 114 undef,[]⟩ w:=by
 have hS:=St.start w V hV
 obtain⟨la,lcap,hlv,hlc,hlm,hle⟩:=hl.is
 clear hle hlc hlm
 subst hlv
 simp only[Array.replicate_succ,Array.replicate_zero,List.push_toArray,List.append_toArray,List.nil_append,List.cons_append]
 refine abr (tgt:=[.code ah8]) (by kernel_rfl) rfl hS ?_
 clear hS;intro w' hS
 refine au (aA ?_)
 go_wp2_with (fail)
 refine au (aA ?_)
 go_wp2_with (first|(first|(((with_reducible refine gS ?_);refine bQ hS rfl rfl rfl ?_);refine⟨_,zd,?_⟩;clear hS;(try clear w');refine zF ?_;intro w' hS;(try simp only[sE]at hS))|((with_reducible refine gA ?_);refine aT 3 rfl hS rfl rfl ?_;clear hS;(try clear w');intro b3;refine zF ?_;intro w' hS))|(go_at_call 23;refine Aj hS ⟨_,_,SY ⟨_,_,_,rfl⟩,?_⟩;clear hS;(try clear w');intro bh w' hS) |
  (go_at_call 60;refine(aie (V:=V) ⟨⟨l,hl⟩,by decide,by decide⟩ (by decide) (St.view hS) (hS.off _ (List.mem_cons_self ..) bh rfl) (St.dR hS)).mono ?_;rintro _ w1 ⟨k,vv,rv,c1,s1,rfl,hok,hkn,hrl,hrm,k1,k2,hS1⟩;obtain⟨V1,hV1,hS2,hk⟩:=Eh (hS.comp (j:=0) rfl (hS1.perm (List.perm_append_comm (l₁:=[_,_]) (l₂:=[_])))) hg hB ⟨hok.pos,by have:=hok.le;omega,by omega⟩;clear hS hS1;(try clear w');have hS:=hS2;clear hS2;have hone2:=qB (wO hk.ves) (wO hk.rdg)))
 obtain⟨V2,hV2,hc1,hS2⟩:=pin hS
 clear hS
 have hS:=hS2
 clear hS2
 have hB2:Bs V2:=(hB.mono hV1).mono hV2
 have hk2:=jf hk hV2
 have hr3:V2.Range b3 0 [vv,rv]:=fun j v hj=>by rw[Nat.zero_add];exact hc1 j v hj
 have hr3':([vv,rv]).length=2:=rfl
 clear hk hc1 hB
 replace hrm:=aj hrm
 refine au (aA ?_)
 go_wp2_with (first|(((with_reducible refine gL ?_);refine zQ hS rfl rfl rfl ?_);refine⟨_,zd,?_⟩;clear hS;(try clear w');refine zF ?_;intro w' hS)|(go_at_call 61;refine ahU hS (ah6 hk2 hok hkn (St.view hS)) ?_;clear hS;(try clear w');intro V3 v4 v5 w' hV3 hl4 hl5 h4o h5o hS))
 have hB3:Bs V3:=hB2.mono hV3
 have hk3:=jf hk2 hV3
 have hr33:=hr3.mono hV3
 by_cases hn:jv k=[]
 ·have hhv:=ah3 hok hrm.out hn
  rw[hn]at hl4
  obtain⟨ga,gcap,hgs⟩:=hl4.len0
  subst hgs
  clear hl4 hl5
  refine bG (tgt:=[.code ah8]) ?_
  refine abr (tgt:=[.inRegion aii [3,4,5],.code .ret,.code ahR]) (by kernel_rfl) rfl hS ?_
  clear hS;(try clear w');intro w' hS
  refine au (au (aA ?_))
  go_wp2_with (fail)
  refine dZ (o:=.tmp 27) (t:=true) (by rfl) ?_
  refine au (aA ?_)
  go_wp2_with (first|(((with_reducible refine gL ?_);refine zQ hS rfl rfl rfl ?_);refine⟨_,zd,?_⟩;clear hS;(try clear w');refine zF ?_;intro w' hS)|(go_at_call 62;refine aga hS hB3 hk3 hhv ?_;clear hS;(try clear w');intro w' hS))
  refine au (ig (abP 3 (by decide) ?_))
  simp only[List.take_succ_cons,List.take_zero]
  go_wp2_with (fail)
  refine bG (tgt:=[.inRegion aii [3,4,5],.code .ret,.code ahR]) ?_
  refine acy 36 hS hB3 rfl rfl rfl rfl rfl rfl ?_
  clear hS;(try clear w');intro w' a' hS hp
  simp only[fr]at hp
  subst hp
  refine abr (tgt:=[.code .ret,.code ahR]) (by kernel_rfl) rfl hS ?_
  clear hS;(try clear w');intro w' hS
  refine abe 4 rfl ?_
  simp only[List.drop_succ_cons,List.drop_zero]
  go_wp2_with (fail)
  refine dH (bG (tgt:=[.code .ret,.code ahR]) ?_)
  exact ac2 Tryd.func12 hS rfl (fun w=>bH (r1:=.tmp 2) (by kernel_rfl) (bD rfl))
 ·have hn1:0 < (jv k).length:=List.length_pos_iff.2 hn
  obtain⟨ga,gcap,hgs⟩:=hl4.lens
  have hq:(((jv k).length:Int) == 0)=false:=by rw[beq_eq_false_iff_ne];omega
  have htail:∀ (w1:World) (_:St w [] V3 [] w1) (u1 u5 u6 u7 u8 u9 u10 u11 u12 u13 u14 u15 u16 u17 u18 u19 u20 u21 u22 u23 u24 u25 u26 u27 u28 u29 u30 u31 u32 u33 u34 u35 u36 u37 u38 u39 u40 u41 u42 u43 u44 u45 u46 u47 u48 u49 u50 u51 u52 u53 u54 u55 u56 u57 u58 u59 u60 u61 u62 u63 u64 u65 u66 u67 u68 u69 u70 u71 u72 u73 u74 u75 u76 u77 u78 u79 u80 u81 u82 u83 u84 u85 u86 u87 u88 u89 u90 u91 u92 u93 u94 u95 u96 u97 u98 u99 u100 u101 u102 u103 u104 u105 u106 u107 u108 u109 u110 u111 u112 u113 u114:Value),RB 12 (fun r w'=>r=.returned (.bool true)/\Kp w w') [.code ahR] ⟨#[.slice la l.length lcap,u1,.bool false,.pointer (some ⟨b3,0,none⟩),v4,u5,u6,u7,u8,u9,u10,u11,u12,u13,u14,u15,u16,u17,u18,u19,u20,u21,u22,u23,u24,u25,u26,u27,u28,u29,u30,u31,u32,u33,u34,u35,u36,u37,u38,u39,u40,u41,u42,u43,u44,u45,u46,u47,u48,u49,u50,u51,u52,u53,u54,u55,u56,u57,u58,u59,u60,u61,u62,u63,u64,u65,u66,u67,u68,u69,u70,u71,u72,u73,u74,u75,u76,u77,u78,u79,u80,u81,u82,u83,u84,u85,u86,u87,u88,u89,u90,u91,u92,u93,u94,u95,u96,u97,u98,u99,u100,u101,u102,u103,u104,u105,u106,u107,u108,u109,u110,u111,u112,u113,u114],[]⟩ w1:=fun w1 hS u1 u5 u6 u7 u8 u9 u10 u11 u12 u13 u14 u15 u16 u17 u18 u19 u20 u21 u22 u23 u24 u25 u26 u27 u28 u29 u30 u31 u32 u33 u34 u35 u36 u37 u38 u39 u40 u41 u42 u43 u44 u45 u46 u47 u48 u49 u50 u51 u52 u53 u54 u55 u56 u57 u58 u59 u60 u61 u62 u63 u64 u65 u66 u67 u68 u69 u70 u71 u72 u73 u74 u75 u76 u77 u78 u79 u80 u81 u82 u83 u84 u85 u86 u87 u88 u89 u90 u91 u92 u93 u94 u95 u96 u97 u98 u99 u100 u101 u102 u103 u104 u105 u106 u107 u108 u109 u110 u111 u112 u113 u114=>ahN hB3 hk3 hok hkn hrm.out hr33 hl4 hn w1 hS _ _ _ _ _ _ _ _ _ _ _ _ _ _ _ _ _ _ _ _ _ _ _ _ _ _ _ _ _ _ _ _ _ _ _ _ _ _ _ _ _ _ _ _ _ _ _ _ _ _ _ _ _ _ _ _ _ _ _ _ _ _ _ _ _ _ _ _ _ _ _ _ _ _ _ _ _ _ _ _ _ _ _ _ _ _ _ _ _ _ _ _ _ _ _ _ _ _ _ _ _ _ _ _ _ _ _ _ _ _ _
  generalize jv k=A at hl4 hn hn1 hgs hq htail
  subst hgs
  clear hl5 hl4
  replace htail:=aj htail
  refine bG (tgt:=[.code ah8]) ?_
  refine abr (tgt:=[.code ahR]) (by kernel_rfl) rfl hS ?_
  clear hS;(try clear w');intro w' hS
  refine au (aA ?_)
  go_wp2_with (fail)
  refine bG (tgt:=[.code ahR]) ?_
  exact htail.out _ hS.aG _ _ _ _ _ _ _ _ _ _ _ _ _ _ _ _ _ _ _ _ _ _ _ _ _ _ _ _ _ _ _ _ _ _ _ _ _ _ _ _ _ _ _ _ _ _ _ _ _ _ _ _ _ _ _ _ _ _ _ _ _ _ _ _ _ _ _ _ _ _ _ _ _ _ _ _ _ _ _ _ _ _ _ _ _ _ _ _ _ _ _ _ _ _ _ _ _ _ _ _ _ _ _ _ _ _ _ _ _ _ _
theorem ah7 {lv:Value} {l:List Int} (hB:Bs V) (hg:Go.Wg.gN<=w.heap.size) (hl:VI V lv l) (hV:V.In w) (hh:ay OC w):kL Tryd.prog 12 #[lv] w fun r w'=>r=.returned (.bool true)/\Kp w w' :=
 abY (B:=B12) (m:=114) Tryd.func12 (show Tryd.f12.body=some B12 from rfl) (by kernel_rfl) hh (ahI hB hg hl hV)
end Go.Proofs.YtjjmefieegcddaaDoor
