/- A part of the proof: W90. -/
import Derived.Test.YtjjmefieegcddaaDoorD25
import Derived.Test.YtjjmefieegcddaaDoorD28
set_option linter.unusedVariables false
set_option linter.unusedSimpArgs false
set_option maxHeartbeats 8000000
namespace Go.Proofs.YtjjmefieegcddaaDoor
open Go.RowKit Go.Wg Go.Mm Go.Wk
open Go Go.Sr Go.Ph Go.Tm Go.Conc
variable {w w0:World} {V:View}
noncomputable def B6:Code:=match Tryd.f6.body with | some c=>c | none=>.skip
noncomputable def ac4:Array Oper:=match B6 with | .seq _ (.seq _ (.seq _ (.seq (.region _ o _) _)))=>o | _=>#[]
noncomputable def E6a:Code:=match B6 with | .seq _ (.seq _ (.seq _ (.seq _ r)))=>r | _=>.skip
noncomputable def Bd6:Code:=match E6a with | .seq _ (.seq _ (.seq (.seq _ (.block _ (.loop b))) _))=>b | _=>.skip
noncomputable def Kq6:Code:=match E6a with | .seq _ (.seq _ (.seq _ r))=>r | _=>.skip
noncomputable def I6:Code:=match Bd6 with | .seq _ (.seq (.block _ i) _)=>i | _=>.skip
noncomputable def R6i:Code:=match Bd6 with | .seq _ (.seq _ r)=>r | _=>.skip
noncomputable def adf:Array Oper:=match I6 with | .seq _ (.seq _ (.seq _ (.seq _ (.seq _ (.seq (.region _ o _) _)))))=>o | _=>#[]
noncomputable def E6b:Code:=match I6 with | .seq _ (.seq _ (.seq _ (.seq _ (.seq _ (.seq _ r)))))=>r | _=>.skip
noncomputable def adb:Array Oper:=match Kq6 with | .seq (.region _ o _) _=>o | _=>#[]
noncomputable def p6a (l:List Nat):List Item:=[.inRegion ac4 l,.code E6a]
noncomputable def aa9:List Item:=[.code Bd6,.inLoop Bd6,.inBlock 0,.code Kq6]
noncomputable def p6b (l:List Nat):List Item:=[.inRegion adf l,.code E6b,.inBlock 1,.code R6i,.inLoop Bd6,.inBlock 0,.code Kq6]
noncomputable def p6c (l:List Nat):List Item:=[.inRegion adb l,.code .ret]
theorem acK {k:Wk} (hok:k.Ok) (m:Nat):Pb (11764900 * m) (apL k m):=by
 induction m with
 | zero=>simp [apL,Pb]
 | succ m ih =>
  have hf:=Hy k hok.le (aN k aC) false (QU k hok aC) m
  rw [apL]
  obtain ⟨a1,a2,a3,a4⟩:=ih
  obtain ⟨b1,b2,b3,b4⟩:=hf
  split
  ·refine ⟨?_,?_,?_,?_⟩ <;> (simp only [dX];omega)
  ·refine ⟨?_,?_,?_,?_⟩ <;> omega
theorem abV {k:Wk} (hok:k.Ok) {m:Nat} (hm:m < k.n) (hf:(k.v m).from_ < 0):∃ (bv:Bool) (y1 y2 e:Int),abN (k.branch m)=(bv,0)∧vX (k.branch m)=((y1,y2),e)∧apB k (m+1)=(apB k m && bv) ∧
  ((bv=true∧e=0∧apL k (m+1)=((apL k m).1+y1,(apL k m).2+y2))∨(bv=false∧e=9∧apL k (m+1)=apL k m)):=by
 have hb:=Go.Wg.kP hok hm
 have hc:=aco hok hm
 have hB:=ab9 k m
 rw [decide_eq_false (by omega),Bool.false_or] at hB
 have hL:apL k (m+1)=if (k.v m).from_ < 0∧(up k (aN k aC)).getD m 0≠0 then dX (apL k m) (kX k (aN k aC) false m) else apL k m:=rfl
 by_cases h:(up k (aN k aC)).getD m 0=0
 ·have hbv:((up k (aN k aC)).getD m 0 != 0)=false:=by rw [h];rfl
  rw [hbv] at hc hB
  refine ⟨false,0,0,9,by rw [acj hb,hc],by rw [abU hb,hc];rfl,hB,.inr ⟨rfl,rfl,?_⟩⟩
  rw [hL,if_neg fun h2=>h2.2 h]
 ·have hbv:((up k (aN k aC)).getD m 0 != 0)=true:=by simpa using h
  rw [hbv] at hc hB
  obtain ⟨w,hw⟩:=(QS hb (gG _ _)).1 hc
  refine ⟨true,(kX k (aN k aC) false m).1,(kX k (aN k aC) false m).2,0,by rw [acj hb,hc],by rw [abU hb,hc,if_pos rfl,abQ hok hm false hw],hB,.inl ⟨rfl,rfl,?_⟩⟩
  rw [hL,if_pos ⟨hf,h⟩]
  rfl
set_option maxRecDepth 40000 in
theorem acf {k:Wk} {vv rv lv:Value} {b3 b6 b9:Nat} {x1 x2:Int} (hB:Bs V) (hg:Go.Wg.gN≤w0.heap.size) (hk:iJ V vv rv k) (hok:k.Ok) (hr3:V.Range b3 0 [vv,rv]) (hx:can k (aN k aC)=true→(x1,x2)=dW k (aN k aC) false) :
  ∀ (d m:Nat),m+d=k.n→∀ (w:World) (u1 u2 u5 u7 u11 u12 u13 u14 u15 u16 u17 u18 u19 u20 u21 u22 u23 u24 u25 u26 u27 u28 u29 u30 u31 u32 u33 u34 u35 u36 u37 u38 u39 u40 u41 u42 u43 u44 u45 u46 u47 u48 u49 u50 u51 u52 u53 u54 u55 u56 u57 u58 u59 u60 u61 u62 u63 u64 u65 u66 u67 u68 u69 u70 u71 u72 u73 u74 u75 u76 u77 u78 u79 u80 u81 u82 u83 u84 u85 u86 u87 u88 u89 u90 u91 u92 u93 u94 u95 u96 u97 u98:Value),St w0 [] V [.blk b9 27 [.int .i64 (apL k m).1,.int .i64 (apL k m).2],.blk b6 27 [.int .i64 x1,.int .i64 x2]] w →
   RB 6 (fun r w'=>r=.returned (.bool true)∧Kp w0 w') aa9 ⟨#[lv,u1,u2,.pointer (some ⟨b3,0,none⟩),.bool (can k (aN k aC)),u5,.pointer (some ⟨b6,0,none⟩),u7,.bool (apB k m),.pointer (some ⟨b9,0,none⟩),.int .i64 (m:Int),u11,u12,u13,u14,u15,u16,u17,u18,u19,u20,u21,u22,u23,u24,u25,u26,u27,u28,u29,u30,u31,u32,u33,u34,u35,u36,u37,u38,u39,u40,u41,u42,u43,u44,u45,u46,u47,u48,u49,u50,u51,u52,u53,u54,u55,u56,u57,u58,u59,u60,u61,u62,u63,u64,u65,u66,u67,u68,u69,u70,u71,u72,u73,u74,u75,u76,u77,u78,u79,u80,u81,u82,u83,u84,u85,u86,u87,u88,u89,u90,u91,u92,u93,u94,u95,u96,u97,u98],[]⟩ w:=by
 obtain ⟨va,vcap,hvv,hvc,hvm,hve⟩:=hk.ves.is
 subst hvv
 have hk0:=hok.pos
 obtain ⟨vg,vo,hva,hvr⟩:=hve hk0
 subst hva
 have hk6:=hok.le
 have hr3':([Value.slice (some ⟨vg,vo,none⟩) k.n vcap,rv]).length=2:=rfl
 have hc3:V.Cell b3 0 (.slice (some ⟨vg,vo,none⟩) k.n vcap):=hr3 0 _ rfl
 clear hve
 intro d
 induction d with
 | zero =>
  intro m hm w u1 u2 u5 u7 u11 u12 u13 u14 u15 u16 u17 u18 u19 u20 u21 u22 u23 u24 u25 u26 u27 u28 u29 u30 u31 u32 u33 u34 u35 u36 u37 u38 u39 u40 u41 u42 u43 u44 u45 u46 u47 u48 u49 u50 u51 u52 u53 u54 u55 u56 u57 u58 u59 u60 u61 u62 u63 u64 u65 u66 u67 u68 u69 u70 u71 u72 u73 u74 u75 u76 u77 u78 u79 u80 u81 u82 u83 u84 u85 u86 u87 u88 u89 u90 u91 u92 u93 u94 u95 u96 u97 u98 hS
  obtain rfl:m=k.n:=by omega
  have hAB:=acT hok
  have hAL:=acR hok
  rw [hAB]
  generalize apL k k.n=p at hS hAL
  generalize can k (aN k aC)=b at hx hAL ⊢
  obtain ⟨p1,p2⟩:=p
  have h0:(0:Int)≤k.n:=by omega
  refine abD (tgt:=p6c [13,14,15]) (by kernel_rfl) rfl hS ?_
  clear hS;intro w' hS
  refine au (au (aA ?_))
  go_wp2_with (((with_reducible refine gL ?_);refine nC hS rfl rfl rfl ?_);refine ⟨_,zd,?_⟩;clear hS;(try clear w');intro a' hp;(try simp only [fr] at hp);subst hp;intro w' hS;(try simp only [sE] at hS))
  refine dZ (o:=.tmp 42) (t:=false) (by rfl) ?_
  refine lG (show _=some [Item.code Kq6] from rfl) ?_
  have hpx:b=true→x1=p1∧x2=p2:=fun h=>by
   have h1:=hx h
   rw [← hAL h] at h1
   exact Prod.mk.injEq .. ▸ h1
  clear hx hAL
  cases b
  all_goals (
   (try (obtain ⟨rfl,rfl⟩:=hpx rfl))
   clear hpx
   refine au (ig (aa6 13 (by decide) ?_))
   simp only [List.take_succ_cons,List.take_zero]
   go_wp2_with (((with_reducible refine gL ?_);refine lW hS rfl rfl rfl ?_);refine ⟨_,zd,?_⟩;clear hS;(try clear w');intro a' hp;(try simp only [fr] at hp);subst hp;intro w' hS;(try simp only [sE] at hS))
   refine bG (tgt:=p6c [13,14,15]) ?_
   refine acQ 97 hS hB rfl rfl rfl rfl rfl rfl ?_
   clear hS;(try clear w');intro w' a' hS hp
   simp only [fr] at hp
   subst hp
   refine abD (tgt:=[.code .ret]) (by kernel_rfl) rfl hS ?_
   clear hS;(try clear w');intro w' hS
   refine abr 14 rfl ?_
   simp only [List.drop_succ_cons,List.drop_zero]
   go_wp2_with (fail)
   refine dH (bG (tgt:=[.code .ret]) ?_)
   exact acW Tryd.func6 hS rfl (fun w=>bH (r1:=.tmp 2) (by kernel_rfl) (bD rfl)))
 | succ d ih =>
  intro m hm w u1 u2 u5 u7 u11 u12 u13 u14 u15 u16 u17 u18 u19 u20 u21 u22 u23 u24 u25 u26 u27 u28 u29 u30 u31 u32 u33 u34 u35 u36 u37 u38 u39 u40 u41 u42 u43 u44 u45 u46 u47 u48 u49 u50 u51 u52 u53 u54 u55 u56 u57 u58 u59 u60 u61 u62 u63 u64 u65 u66 u67 u68 u69 u70 u71 u72 u73 u74 u75 u76 u77 u78 u79 u80 u81 u82 u83 u84 u85 u86 u87 u88 u89 u90 u91 u92 u93 u94 u95 u96 u97 u98 hS
  have hlt:m < k.n:=by omega
  have hlt':(m:Int) < k.n:=by omega
  have h0:(0:Int)≤m:=by omega
  have hcell:=hvr m hlt 0 _ rfl
  simp only [Nat.add_zero] at hcell
  have ihm:=ih (m+1) (by omega)
  clear ih hm
  by_cases hf:0≤(k.v m).from_
  ·have hBs:=ab9 k m
   rw [decide_eq_true hf,Bool.true_or,Bool.and_true] at hBs
   have hLs:apL k (m+1)=apL k m:=if_neg fun h=>absurd h.1 (by omega)
   rw [hBs,hLs] at ihm
   generalize (k.v m).from_=f at hcell hf
   clear hBs hLs
   replace ihm:=aj ihm
   refine abD (tgt:=aa9) (by kernel_rfl) rfl hS ?_
   clear hS;(try clear w');intro w' hS
   refine aA ?_
   conv=>enter [2];whnf
   go_wp2_with (((with_reducible refine gL ?_);refine nC hS rfl rfl rfl ?_);refine ⟨_,zd,?_⟩;clear hS;(try clear w');intro a' hp;(try simp only [fr] at hp);subst hp;intro w' hS;(try simp only [sE] at hS))
   refine jr (bG (tgt:=aa9) ?_)
   exact ihm.out _ _ _ _ _ _ _ _ _ _ _ _ _ _ _ _ _ _ _ _ _ _ _ _ _ _ _ _ _ _ _ _ _ _ _ _ _ _ _ _ _ _ _ _ _ _ _ _ _ _ _ _ _ _ _ _ _ _ _ _ _ _ _ _ _ _ _ _ _ _ _ _ _ _ _ _ _ _ _ _ _ _ _ _ _ _ _ _ _ _ _ _ _ hS
  ·have hf':(k.v m).from_ < 0:=by omega
   obtain ⟨bv,y1,y2,e,hcan,hlost,hBs,hor⟩:=abV hok hlt hf'
   have hbo:=Go.Wg.kP hok hlt
   have hb1:=hbo.pos
   have hb6:=hbo.le
   have hbr6:=hbo.rdl
   rw [hBs] at ihm
   generalize (k.v m).from_=f at hcell hf hf'
   generalize apB k m=q at ihm ⊢
   obtain ⟨a1,a2,a3,a4⟩:=acK hok m
   obtain ⟨c1,c2,c3,c4⟩:=acK hok (m+1)
   generalize apL k (m+1)=p' at ihm hor c1 c2 c3 c4
   generalize apL k m=p at hS hor a1 a2 a3 a4
   obtain ⟨p1,p2⟩:=p
   dsimp only at a1 a2 a3 a4
   have hm6:(m:Int)≤6:=by omega
   clear hBs hbo
   cases q
   all_goals (
    rcases hor with ⟨rfl,rfl,rfl⟩ | ⟨rfl,rfl,rfl⟩
    all_goals (
     dsimp only at ihm c1 c2 c3 c4
     replace ihm:=aj ihm
     refine abD (tgt:=p6b [1,2,3,4,5,6,7]) (by kernel_rfl) rfl hS ?_
     clear hS;(try clear w');intro w' hS
     refine au (aA ?_)
     go_wp2_with (((with_reducible refine gL ?_);refine nC hS rfl rfl rfl ?_);refine ⟨_,zd,?_⟩;clear hS;(try clear w');intro a' hp;(try simp only [fr] at hp);subst hp;intro w' hS;(try simp only [sE] at hS))
     refine au (jg (au (aA ?_)))
     go_wp2_with (((with_reducible refine gL ?_);refine nC hS rfl rfl rfl ?_);refine ⟨_,zd,?_⟩;clear hS;(try clear w');intro a' hp;(try simp only [fr] at hp);subst hp;intro w' hS;(try simp only [sE] at hS))
     refine au (aA ?_)
     go_wp2_with (first | (first | ((first | ((with_reducible refine gL ?_);refine zQ hS rfl rfl rfl ?_) | ((with_reducible refine gS ?_);refine bQ hS rfl rfl rfl ?_));refine ⟨_,zd,?_⟩;clear hS;(try clear w');intro a' hp;(try simp only [fr] at hp);subst hp;intro w' hS;(try simp only [sE] at hS)) | ((with_reducible refine gA ?_);refine aT 11 rfl hS rfl rfl ?_;clear hS;(try clear w');intro b11;intro a' hp;(try simp only [fr] at hp);subst hp;intro w' hS)) | (go_at_call 35;refine (Rq hk hok hlt (St.view hS)).mono ?_;rintro _ w1 ⟨vv',rv',rfl,hS1⟩;have hS3:=hS.Nq hS1;simp only [List.cons_append,List.nil_append] at hS3;obtain ⟨V3,hV3,hS2,hk3⟩:=Eh (k:=k.branch m) hS3 hg hB ⟨hb1,by omega,by omega⟩;clear hS hS1 hS3;(try clear w');have hS:=hS2;clear hS2;have hone3:=qB (wO hk3.ves) (wO hk3.rdg)))
     obtain ⟨V4,hV4,hc11,hS2⟩:=pin hS
     clear hS
     have hS:=hS2
     clear hS2
     have hB4:Bs V4:=(hB.mono hV3).mono hV4
     have hk4:=jf hk3 hV4
     have hr11:V4.Range b11 0 [vv',rv']:=fun j v hj=>by rw [Nat.zero_add];exact hc11 j v hj
     have hr11':([vv',rv']).length=2:=rfl
     clear hk3 hc11
     refine au (aA ?_)
     go_wp2_with (first | (((with_reducible refine gL ?_);refine zQ hS rfl rfl rfl ?_);refine ⟨_,zd,?_⟩;clear hS;(try clear w');intro a' hp;(try simp only [fr] at hp);subst hp;intro w' hS;(try simp only [sE] at hS)) | (go_at_call 25;refine abA hS hB4 hk4 hcan ?_;clear hS;(try clear w');intro w' hS))
     refine au (aA ?_)
     go_wp2_with (fail)
     refine au (aA ?_)
     go_wp2_with (fail)
     refine au (ig (aa6 1 (by decide) ?_))
     simp only [List.take_succ_cons,List.take_zero]
     go_wp2_with (((with_reducible refine gL ?_);refine zQ hS rfl rfl rfl ?_);refine ⟨_,zd,?_⟩;clear hS;(try clear w');intro a' hp;(try simp only [fr] at hp);subst hp;intro w' hS;(try simp only [sE] at hS))
     refine bG (tgt:=p6b [1,2,3,4,5,6,7]) ?_
     refine acy 68 hS hB4 hk4 hlost rfl rfl rfl rfl rfl rfl ?_
     clear hS;(try clear w');intro w' a' hS hp
     simp only [fr] at hp
     subst hp
     refine abD (tgt:=aa9) (by kernel_rfl) rfl hS ?_
     clear hS;(try clear w');intro w' hS
     refine abr 2 rfl ?_
     simp only [List.drop_succ_cons,List.drop_zero]
     go_wp2_with (first | (((with_reducible refine gS ?_);refine bQ hS rfl rfl rfl ?_);refine ⟨_,zd,?_⟩;clear hS;(try clear w');intro a' hp;(try simp only [fr] at hp);subst hp;intro w' hS;(try simp only [sE] at hS)) | (((with_reducible refine gA ?_);refine dM hS rfl rfl ?_);clear hS;(try clear w');intro _;intro a' hp;(try simp only [fr] at hp);subst hp;intro w' hS))
     refine dH (aA ?_)
     conv=>enter [2];whnf
     go_wp2_with ((first | ((with_reducible refine gL ?_);refine gY hS rfl rfl rfl ?_) | ((with_reducible refine gS ?_);refine bQ hS rfl rfl rfl ?_));refine ⟨_,zd,?_⟩;clear hS;(try clear w');intro a' hp;(try simp only [fr] at hp);subst hp;intro w' hS;(try simp only [sE] at hS))
     refine jE (aA ?_)
     conv=>enter [2];whnf
     go_wp2_with (fail)
     refine jr (bG (tgt:=aa9) ?_)
     exact ihm.out _ _ _ _ _ _ _ _ _ _ _ _ _ _ _ _ _ _ _ _ _ _ _ _ _ _ _ _ _ _ _ _ _ _ _ _ _ _ _ _ _ _ _ _ _ _ _ _ _ _ _ _ _ _ _ _ _ _ _ _ _ _ _ _ _ _ _ _ _ _ _ _ _ _ _ _ _ _ _ _ _ _ _ _ _ _ _ _ _ _ _ _ _ ((hS.weaken fun j o h=>hV4 _ _ (hV3 _ _ h)).aG)))
set_option maxRecDepth 40000 in
theorem ab7 {lv:Value} {l:List Int} (hB:Bs V) (hg:Go.Wg.gN≤w.heap.size) (hl:VI V lv l) (hV:V.In w):RB 6 (fun r w'=>r=.returned (.bool true)∧Kp w w') [.code B6] ⟨#[lv] ++ Array.replicate 98 undef,[]⟩ w:=by
 have hS:=St.start w V hV
 obtain ⟨la,lcap,hlv,hlc,hlm,hle⟩:=hl.is
 clear hle hlc hlm
 subst hlv
 simp only [Array.replicate_succ,Array.replicate_zero,List.push_toArray,List.append_toArray,List.nil_append,List.cons_append]
 refine abD (tgt:=p6a [1,2,3,4,5,6,7]) (by kernel_rfl) rfl hS ?_
 clear hS;intro w' hS
 refine au (aA ?_)
 go_wp2_with (fail)
 refine au (aA ?_)
 go_wp2_with (first | (first | (((with_reducible refine gS ?_);refine bQ hS rfl rfl rfl ?_);refine ⟨_,zd,?_⟩;clear hS;(try clear w');intro a' hp;(try simp only [fr] at hp);subst hp;intro w' hS;(try simp only [sE] at hS)) | ((with_reducible refine gA ?_);refine aT 3 rfl hS rfl rfl ?_;clear hS;(try clear w');intro b3;intro a' hp;(try simp only [fr] at hp);subst hp;intro w' hS)) | (go_at_call 23;refine Aj hS ⟨_,_,SY ⟨_,_,_,rfl⟩,?_⟩;clear hS;(try clear w');intro bh w' hS) |
  (go_at_call 33;refine (acs (V:=V) ⟨⟨l,hl⟩,by decide,by decide⟩ (by decide) (by decide) (by decide) (St.view hS) (hS.off _ (List.mem_cons_self ..) bh rfl) (St.dR hS)).mono ?_;rintro _ w1 ⟨k,vv,rv,c1,s1,rfl,hok,hkn,hrl,k1,k2,hS1⟩;obtain ⟨V1,hV1,hS2,hk⟩:=Eh (hS.comp (j:=0) rfl (hS1.perm (List.perm_append_comm (l₁:=[_,_]) (l₂:=[_])))) hg hB ⟨hok.pos,by have:=hok.le;omega,by omega⟩;clear hS hS1;(try clear w');have hS:=hS2;clear hS2;have hone2:=qB (wO hk.ves) (wO hk.rdg)))
 obtain ⟨V2,hV2,hc1,hS2⟩:=pin hS
 clear hS
 have hS:=hS2
 clear hS2
 have hB2:Bs V2:=(hB.mono hV1).mono hV2
 have hk2:=jf hk hV2
 have hr3:V2.Range b3 0 [vv,rv]:=fun j v hj=>by rw [Nat.zero_add];exact hc1 j v hj
 have hr3':([vv,rv]).length=2:=rfl
 have hcan:=acj hok
 have hlost:=abU hok
 have hfin:∀ (x1 x2:Int),(can k (aN k aC)=true→(x1,x2)=dW k (aN k aC) false)→∀ (w1:World) (u1 u2 u5 u7 u11 u12 u13 u14 u15 u16 u17 u18 u19 u20 u21 u22 u23 u24 u25 u26 u27 u28 u29 u30 u31 u32 u33 u34 u35 u36 u37 u38 u39 u40 u41 u42 u43 u44 u45 u46 u47 u48 u49 u50 u51 u52 u53 u54 u55 u56 u57 u58 u59 u60 u61 u62 u63 u64 u65 u66 u67 u68 u69 u70 u71 u72 u73 u74 u75 u76 u77 u78 u79 u80 u81 u82 u83 u84 u85 u86 u87 u88 u89 u90 u91 u92 u93 u94 u95 u96 u97 u98:Value) (b6 b9:Nat),St w [] V2 [.blk b9 27 [.int .i64 0,.int .i64 0],.blk b6 27 [.int .i64 x1,.int .i64 x2]] w1 →
   RB 6 (fun r w'=>r=.returned (.bool true)∧Kp w w') aa9 ⟨#[.slice la l.length lcap,u1,u2,.pointer (some ⟨b3,0,none⟩),.bool (can k (aN k aC)),u5,.pointer (some ⟨b6,0,none⟩),u7,.bool true,.pointer (some ⟨b9,0,none⟩),.int .i64 0,u11,u12,u13,u14,u15,u16,u17,u18,u19,u20,u21,u22,u23,u24,u25,u26,u27,u28,u29,u30,u31,u32,u33,u34,u35,u36,u37,u38,u39,u40,u41,u42,u43,u44,u45,u46,u47,u48,u49,u50,u51,u52,u53,u54,u55,u56,u57,u58,u59,u60,u61,u62,u63,u64,u65,u66,u67,u68,u69,u70,u71,u72,u73,u74,u75,u76,u77,u78,u79,u80,u81,u82,u83,u84,u85,u86,u87,u88,u89,u90,u91,u92,u93,u94,u95,u96,u97,u98],[]⟩ w1 :=
  fun x1 x2 hx w1 u1 u2 u5 u7 u11 u12 u13 u14 u15 u16 u17 u18 u19 u20 u21 u22 u23 u24 u25 u26 u27 u28 u29 u30 u31 u32 u33 u34 u35 u36 u37 u38 u39 u40 u41 u42 u43 u44 u45 u46 u47 u48 u49 u50 u51 u52 u53 u54 u55 u56 u57 u58 u59 u60 u61 u62 u63 u64 u65 u66 u67 u68 u69 u70 u71 u72 u73 u74 u75 u76 u77 u78 u79 u80 u81 u82 u83 u84 u85 u86 u87 u88 u89 u90 u91 u92 u93 u94 u95 u96 u97 u98 b6 b9 hS=>acf hB2 hg hk2 hok hr3 hx k.n 0 (Nat.zero_add _) w1 _ _ _ _ _ _ _ _ _ _ _ _ _ _ _ _ _ _ _ _ _ _ _ _ _ _ _ _ _ _ _ _ _ _ _ _ _ _ _ _ _ _ _ _ _ _ _ _ _ _ _ _ _ _ _ _ _ _ _ _ _ _ _ _ _ _ _ _ _ _ _ _ _ _ _ _ _ _ _ _ _ _ _ _ _ _ _ _ _ _ _ _ hS
 generalize hcb:can k (aN k aC)=cb at hcan hlost hfin
 clear hk hc1 hB
 obtain ⟨x1,x2,e,hlv,hx,hcmp⟩:∃ x1 x2 e,vX k=((x1,x2),e)∧(cb=true→(x1,x2)=dW k (aN k aC) false)∧(!cb == (e == 0))=false:=by
  cases cb
  ·exact ⟨0,0,9,hlost,(fun h=>nomatch h),rfl⟩
  ·exact ⟨_,_,0,hlost,fun _=>rfl,rfl⟩
 have hfin2:=hfin x1 x2 hx
 clear hfin hx hlost hcb
 replace hfin2:=aj hfin2
 refine au (aA ?_)
 go_wp2_with (first | (((with_reducible refine gL ?_);refine zQ hS rfl rfl rfl ?_);refine ⟨_,zd,?_⟩;clear hS;(try clear w');intro a' hp;(try simp only [fr] at hp);subst hp;intro w' hS;(try simp only [sE] at hS)) | (go_at_call 25;refine abA hS hB2 hk2 hcan ?_;clear hS;(try clear w');intro w' hS))
 refine au (ig (aa6 1 (by decide) ?_))
 simp only [List.take_succ_cons,List.take_zero]
 go_wp2_with (((with_reducible refine gL ?_);refine zQ hS rfl rfl rfl ?_);refine ⟨_,zd,?_⟩;clear hS;(try clear w');intro a' hp;(try simp only [fr] at hp);subst hp;intro w' hS;(try simp only [sE] at hS))
 refine bG (tgt:=p6a [1,2,3,4,5,6,7]) ?_
 refine acy 26 hS hB2 hk2 hlv rfl rfl rfl rfl rfl rfl ?_
 clear hS;(try clear w');intro w' a' hS hp
 simp only [fr] at hp
 subst hp
 refine abD (tgt:=aa9) (by kernel_rfl) rfl hS ?_
 clear hS;(try clear w');intro w' hS
 refine abr 2 rfl ?_
 simp only [List.drop_succ_cons,List.drop_zero]
 go_wp2_with (first | (((with_reducible refine gS ?_);refine bQ hS rfl rfl rfl ?_);refine ⟨_,zd,?_⟩;clear hS;(try clear w');intro a' hp;(try simp only [fr] at hp);subst hp;intro w' hS;(try simp only [sE] at hS)) | ((with_reducible refine gA ?_);refine aT 6 rfl hS rfl rfl ?_;clear hS;(try clear w');intro b6;intro a' hp;(try simp only [fr] at hp);subst hp;intro w' hS))
 refine dH (au (aA ?_))
 go_wp2_with (fail)
 refine au (aA ?_)
 go_wp2_with (first | (((with_reducible refine gS ?_);refine bQ hS rfl rfl rfl ?_);refine ⟨_,zd,?_⟩;clear hS;(try clear w');intro a' hp;(try simp only [fr] at hp);subst hp;intro w' hS;(try simp only [sE] at hS)) | ((with_reducible refine gA ?_);refine aT 9 rfl hS rfl rfl ?_;clear hS;(try clear w');intro b9;intro a' hp;(try simp only [fr] at hp);subst hp;intro w' hS))
 refine au (au (aA ?_))
 go_wp2_with (fail)
 refine jg (zh (bG (tgt:=aa9) ?_))
 exact hfin2.out _ _ _ _ _ _ _ _ _ _ _ _ _ _ _ _ _ _ _ _ _ _ _ _ _ _ _ _ _ _ _ _ _ _ _ _ _ _ _ _ _ _ _ _ _ _ _ _ _ _ _ _ _ _ _ _ _ _ _ _ _ _ _ _ _ _ _ _ _ _ _ _ _ _ _ _ _ _ _ _ _ _ _ _ _ _ _ _ _ _ _ _ _ _ _ hS.aG
set_option maxRecDepth 20000 in
theorem acU {lv:Value} {l:List Int} (hB:Bs V) (hg:Go.Wg.gN≤w.heap.size) (hl:VI V lv l) (hV:V.In w) (hh:ay OC w):kL Tryd.prog 6 #[lv] w fun r w'=>r=.returned (.bool true)∧Kp w w' :=
 abP (B:=B6) (m:=98) Tryd.func6 (show Tryd.f6.body=some B6 from rfl) (by kernel_rfl) hh (ab7 hB hg hl hV)
end Go.Proofs.YtjjmefieegcddaaDoor
