/- A part of the proof: W101, W102. -/
import Derived.Test.YtjjmefieegcddaaDoorI14
set_option linter.unusedVariables false
set_option linter.unusedSimpArgs false
set_option maxHeartbeats 8000000
set_option maxRecDepth 20000
namespace Go.Wg
open Go Go.Mm Go.Proofs.YtjjmefieegcddaaDoor
theorem aev {k:Wk} {ws:List Int} (h:Truth k ws):listOf k (fun i=>(ws.getD i 0).toNat)=ws:=by
 refine List.ext_getElem (by rw [adB,h.len]) fun j h1 h2=>?_
 have hj:j < k.n:=by rw [adB] at h1;exact h1
 have h3:=listOf_at (k:=k) (fun i=>(ws.getD i 0).toNat) hj
 rw [List.getD_eq_getElem?_getD,List.getElem?_eq_getElem h1,Option.getD_some] at h3
 rw [h3]
 have h4:=(h.room j hj).1
 rw [List.getD_eq_getElem?_getD,List.getElem?_eq_getElem h2,Option.getD_some] at h4 ⊢
 omega
theorem adT {k:Wk} (hok:k.Ok) {l:List Int} (h:Truth k l):((dW k (aN k aC) false).1≤(ads k l).sum∧(ads k l).sum≤(dW k (aN k aC) false).2)∧(dW k (aN k aC) true).1≤adu k l k.n∧adu k l k.n≤(dW k (aN k aC) true).2:=by
 have ht:=adq hok h
 have e1:=aem (k:=k) fun i=>(l.getD i 0).toNat
 have e2:=aee (k:=k) fun i=>(l.getD i 0).toNat
 rw [aev h] at e1 e2
 rw [e1,e2]
 exact ⟨(abL hok false ht).all _ ⟨_,ht,rfl⟩,(abL hok true ht).all _ ⟨_,ht,rfl⟩⟩
theorem ad6 {k:Wk} (hok:k.Ok) {l:List Int} (h:Truth k l):∀ i,i < k.n→0≤l.getD i 0∧l.getD i 0≤40:=fun i hi=>by
 have h1:=h.room i hi
 have h2:=(hok.ves i hi).2.2.2.1
 omega
theorem adX {k:Wk} (hok:k.Ok) {l:List Int} (h:Truth k l):∀ i,i < (ads k l).length→0≤(ads k l).getD i 0∧(ads k l).getD i 0≤20:=fun i hi=>by
 rw [adA] at hi
 have e:(ads k l).getD i 0=adx k l i:=by simp [ads,List.getD_eq_getElem?_getD,hi]
 rw [e]
 have hv:=hok.ves i hi
 obtain ⟨_,_,_,_,o5,o6,o7,o8,_⟩:=hv
 by_cases hf:k.fills i=[]
 ·unfold adx;rw [if_pos hf];omega
 ·have:=(((ad2 h.len).1 h).1 i hi).2 hf
  omega
theorem adY {l:List Int} (h:∀ i,i < l.length→0≤l.getD i 0∧l.getD i 0≤40):0≤l.sum∧l.sum≤40 * l.length:=by
 induction l with
 | nil=>simp
 | cons a l ih =>
  have h0:=h 0 (by simp)
  have h1:=ih fun i hi=>by
   have:=h (i+1) (by simp only [List.length_cons];omega)
   simpa using this
  simp only [List.getD_cons_zero] at h0
  simp only [List.sum_cons,List.length_cons]
  omega
end Go.Wg
namespace Go.Proofs.YtjjmefieegcddaaDoor
open Go.RowKit Go.Wg Go.Mm Go.Wk
open Go Go.Sr Go.Ph Go.Tm Go.Conc
variable {w w0:World} {V:View}
noncomputable def B7:Code:=match Tryd.f7.body with | some c=>c | none=>.skip
noncomputable def E7a:Code:=match B7 with | .seq _ (.seq _ (.seq _ (.seq _ (.seq _ r))))=>r | _=>.skip
noncomputable def aeW:Array Oper:=match E7a with | .seq (.region _ o _) _=>o | _=>#[]
noncomputable def E7b:Code:=match E7a with | .seq _ r=>r | _=>.skip
noncomputable def aeP:Array Oper:=match E7b with | .seq (.region _ o _) _=>o | _=>#[]
noncomputable def E7c:Code:=match E7b with | .seq _ r=>r | _=>.skip
noncomputable def E7d:Code:=match E7c with | .seq _ (.seq _ (.seq _ (.seq _ r)))=>r | _=>.skip
noncomputable def aeG:Array Oper:=match E7d with | .seq (.region _ o _) _=>o | _=>#[]
theorem adM {w0:World} {X:List Nat} {L:List dF} {f:FuncId} {args:Array Value} {R:Ending→World→Prop} {l:List Int} {x:Value} (hS:St w0 X V L w) (hc:Calls Tryd.prog f args w fun r w'=>∃ u,r=.returned (.tuple #[u,x])∧Kp w w'∧tY w w' u l)
  (h:∀ (V':View) (v:Value) (w':World),(∀ j o,V j=some o→V' j=some o)→VI V' v l→v.oneCell'=true→St w0 X V' L w'→R (.returned (.tuple #[v,x])) w'):Calls Tryd.prog f args w R :=
 hc.mono fun r w' ⟨v,he,hk,ho⟩=>by
  obtain ⟨V',hV',hS',hv⟩:=Um hS hk ho
  subst he
  obtain ⟨a,cap,hi,_⟩:=hv.is
  exact h V' v w' hV' ⟨⟨a,cap,hi,‹_›⟩⟩ (by rw [hi];rfl) hS'
theorem adQ {vv rv lv:Value} {k:Wk} {l:List Int} (hk:iJ V vv rv k) (hok:k.Ok) (hl:VI V lv l) (ht:Truth k l) (hV:V.In w) :
  Calls Tryd.prog 44 #[.agg #[vv,rv],lv] w fun e w'=>∃ v,e=.returned (.tuple #[v,.bool true])∧Kp w w'∧tY w w' v (ads k l) :=
 (aeC hk hok hl ht.len (fun i hi=>by have:=ad6 hok ht i hi;omega) hV).mono fun e w' h=>h.elim (fun h=>h.2) fun h=>absurd ht h.1
set_option maxRecDepth 40000 in
theorem aey {k:Wk} {vv rv lv mv tv v7 v9:Value} {b3 b11 b13:Nat} {a1 a2 s1 s2:Int} {t ws:List Int} (hB:Bs V) (hk:iJ V vv rv k) (hok:k.Ok) (hr3:V.Range b3 0 [vv,rv]) (ht:Truth k t) (hw:Truth k ws) (hmv:VI V mv ws) (htv:VI V tv t) (h7:VI V v7 (ads k t)) (h9:VI V v9 (ads k ws))
  (hbf:∀ i,i < k.n→(∀ j,j < i→ws.getD j 0=t.getD j 0)→t.getD i 0≤ws.getD i 0) (ha:dW k (aN k aC) false=(a1,a2)) (hs:dW k (aN k aC) true=(s1,s2)) (w:World) (hS:St w0 [] V [.blk b13 27 [.int .i64 s1,.int .i64 s2],.blk b11 27 [.int .i64 a1,.int .i64 a2]] w) (u1 u15 u16 u17 u18 u19 u20 u21 u22 u23 u24 u25 u26 u27 u28 u29 u30 u31 u32 u33 u34 u35 u36 u37 u38 u39 u40 u41 u42 u43 u44 u45 u46 u47 u48 u49 u50 u51 u52 u53 u54 u55 u56 u57 u58 u59 u60 u61 u62 u63 u64 u65 u66 u67 u68 u69 u70 u71 u72 u73 u74 u75 u76 u77 u78 u79 u80 u81 u82 u83 u84 u85 u86 u87 u88 u89 u90 u91 u92 u93 u94 u95 u96 u97 u98 u99 u100 u101 u102 u103 u104 u105 u106 u107 u108 u109 u110 u111 u112 u113 u114 u115 u116 u117 u118 u119 u120 u121 u122 u123 u124 u125 u126 u127 u128 u129 u130 u131 u132 u133 u134 u135 u136 u137 u138 u139 u140 u141 u142 u143 u144 u145:Value) :
  RB 7 (fun r w'=>r=.returned (.bool true)∧Kp w0 w') [.code E7c] ⟨#[lv,u1,.bool false,.pointer (some ⟨b3,0,none⟩),mv,tv,.int .i64 0,v7,.bool true,v9,.bool true,.pointer (some ⟨b11,0,none⟩),.int .i64 0,.pointer (some ⟨b13,0,none⟩),.int .i64 0,u15,u16,u17,u18,u19,u20,u21,u22,u23,u24,u25,u26,u27,u28,u29,u30,u31,u32,u33,u34,u35,u36,u37,u38,u39,u40,u41,u42,u43,u44,u45,u46,u47,u48,u49,u50,u51,u52,u53,u54,u55,u56,u57,u58,u59,u60,u61,u62,u63,u64,u65,u66,u67,u68,u69,u70,u71,u72,u73,u74,u75,u76,u77,u78,u79,u80,u81,u82,u83,u84,u85,u86,u87,u88,u89,u90,u91,u92,u93,u94,u95,u96,u97,u98,u99,u100,u101,u102,u103,u104,u105,u106,u107,u108,u109,u110,u111,u112,u113,u114,u115,u116,u117,u118,u119,u120,u121,u122,u123,u124,u125,u126,u127,u128,u129,u130,u131,u132,u133,u134,u135,u136,u137,u138,u139,u140,u141,u142,u143,u144,u145],[]⟩ w:=by
 obtain ⟨⟨m1,m2⟩,m3,m4⟩:=adT hok ht
 obtain ⟨⟨m5,m6⟩,_,_⟩:=adT hok hw
 have msrc:=aeI hok t
 rw [ha] at m1 m2 m5 m6
 rw [hs] at m3 m4
 simp only at m1 m2 m3 m4 m5 m6
 have hn6:=hok.le
 have hpos:=hok.pos
 have hlt:=ht.len
 have hlw:=hw.len
 have htb:=ad6 hok ht
 have hb7:=adX hok ht
 have hb9:=adX hok hw
 have hl7:=adA k t
 have hl9:=adA k ws
 have hq7:=adY (l:=ads k t) fun i hi=>by have:=hb7 i hi;omega
 have hq9:=adY (l:=ads k ws) fun i hi=>by have:=hb9 i hi;omega
 have hst:=fun w hV=>aex (w:=w) hk hok htv hlt (fun i hi=>by have:=htb i hi;omega) hV
 have hto7:=fun w hV=>adZ (w:=w) h7 (by omega) (fun i hi=>by have:=hb7 i hi;omega) hV
 have hto9:=fun w hV=>adZ (w:=w) h9 (by omega) (fun i hi=>by have:=hb9 i hi;omega) hV
 have hbe:=fun w hV=>aen (w:=w) hmv htv (by omega) (by omega) (fun i hi h=>hbf i (by omega) h) hV
 have hss:=fun m=>aeu k t m
 have hs0:adO k t 0=0:=by simp [adO]
 have hsb:∀ m,m≤k.n→0≤adO k t m∧adO k t m≤40 * (m:Int):=fun m=>by
  induction m with
  | zero=>simp [adO]
  | succ m ih =>
   intro hm
   rw [hss]
   have h1:=ih (by omega)
   have h2:=htb m (by omega)
   split <;> omega
 rw [hl7] at hq7
 rw [hl9] at hq9
 generalize (ads k t).sum=lost at m1 m2 msrc hq7 hto7
 generalize (ads k ws).sum=mine at m5 m6 hq9 hto9
 generalize adu k t k.n=stand at m3 m4 msrc hst
 have hss':-300≤stand∧stand≤300:=by
  have:=hsb k.n (Nat.le_refl _)
  omega
 generalize adO k t=S at msrc hss hs0 hsb
 obtain ⟨ta,tcap,htv',htc,htm,hte⟩:=htv.is
 obtain ⟨va,vcap,hvv,hvc,hvm,hve⟩:=hk.ves.is
 subst htv';subst hvv
 rw [hlt] at hte htc hst hbe
 obtain ⟨vg,vo,hva,hvr⟩:=hve hpos
 obtain ⟨tg,tx,hta,htr⟩:=hte hpos
 subst hva;subst hta
 have hc3:V.Cell b3 0 (.slice (some ⟨vg,vo,none⟩) k.n vcap):=hr3 0 _ rfl
 have hr3':([Value.slice (some ⟨vg,vo,none⟩) k.n vcap,rv]).length=2:=rfl
 rw [hlt]
 clear hve hte hb7 hb9 hk ha hs hbf htv hmv h7 h9
 replace hst:=aj hst;replace hto7:=aj hto7;replace hto9:=aj hto9;replace hbe:=aj hbe;replace hss:=aj hss;replace hsb:=aj hsb;replace hvr:=aj hvr;replace htr:=aj htr;replace htb:=aj htb
 refine abr (tgt:=[.inRegion aeG [42,43,44],.code .ret]) (by kernel_rfl) rfl hS ?_
 clear hS;intro w' hS
 refine au (aA ?_)
 go_wp2_with (go_at_call 46;refine aH hS ⟨_,hbe.out _ (St.view hS),?_⟩;clear hS;(try clear w');intro w' hS)
 refine au (aA ?_)
 go_wp2_with (fail)
 (refine bF (S:=(St w0 [] V [.blk b13 27 [.int .i64 s1,.int .i64 s2],.blk b11 27 [.int .i64 a1,.int .i64 a2]])) [false,false,false,false,false,false,false,false] rfl (by kernel_rfl) ?_;replace hS:=St.eY hS;(repeat' ((with_reducible refine gHd ?_);(first | (refine aar 0 rfl (by kernel_rfl) (by kernel_rfl) (by decide +kernel) rfl rfl (fun _ _ _ h=>nomatch h.1) rfl (St.aG hS) ?_;refine zH ?_) | ((refine acU 2 rfl (by kernel_rfl) (by kernel_rfl) (by decide +kernel) (fun _ _ _ _ h=>nomatch h.1) rfl (St.aG hS) rfl rfl ?_);refine ⟨_,zd,?_⟩;refine zH ?_) | (refine aar 3 rfl (by kernel_rfl) (by kernel_rfl) (by decide +kernel) rfl rfl (fun _ _ _ h=>nomatch h.1) rfl (St.aG hS) ?_;refine zH ?_) | (refine dw 5 rfl (by kernel_rfl) (by kernel_rfl) (by decide +kernel) (fun _ _ _ _ h=>nomatch h.1) rfl (St.aG hS) ?_;refine ⟨_,zp,?_⟩;refine zH ?_) | (refine dw 6 rfl (by kernel_rfl) (by kernel_rfl) (by decide +kernel) (fun _ _ _ _ h=>nomatch h.1) rfl (St.aG hS) ?_;refine ⟨_,zp,?_⟩;refine zH ?_) | (refine dw 7 rfl (by kernel_rfl) (by kernel_rfl) (by decide +kernel) (fun _ _ _ _ h=>nomatch h.1) rfl (St.aG hS) ?_;refine ⟨_,zp,?_⟩;refine zH ?_) | (refine oZ 1 (by decide +kernel) rfl rfl ⟨_,_,zo,?_⟩;refine aH hS ⟨_,hto7.out _ (St.view hS),?_⟩;clear hS;(try clear w');intro w' hS;refine ⟨_,rfl,?_⟩;refine zH ?_;refine ⟨(St.aG hS),?_⟩) | (refine oZ 4 (by decide +kernel) rfl rfl ⟨_,_,zo,?_⟩;refine aH hS ⟨_,hst.out _ (St.view hS),?_⟩;clear hS;(try clear w');intro w' hS;refine ⟨_,rfl,?_⟩;refine zH ?_;refine ⟨(St.aG hS),?_⟩) | refine wpAnyH_done (by decide +kernel) ?_ _))))
 all_goals (
  go_wp2_with (fail)
  refine au (aA ?_)
  go_wp2_with (fail)
  go_loopw [15,18] (fun nv iv wr=>∃ i:Nat,i≤k.n∧iv=.int .i64 (i:Int)∧nv=.int .i64 (S i)∧St w0 [] V [.blk b13 27 [.int .i64 s1,.int .i64 s2],.blk b11 27 [.int .i64 a1,.int .i64 a2]] wr) (fun _ iv _=>k.n - (intOf iv).toNat)
  case atStart=>exact ⟨0,by omega,rfl,by rw [hs0],hS.aG⟩
  case round =>
   clear hS
   obtain ⟨i,hi,rfl,rfl,hS⟩:=hrel
   have h0:(0:Int)≤i:=by omega
   by_cases hlt:i < k.n
   ·have hlt':(i:Int) < k.n:=by omega
    have hcell:=hvr.out i hlt 0 _ rfl
    have hcelt:=htr.out i hlt 0 _ rfl
    simp only [Nat.mul_one,Nat.add_zero] at hcell hcelt
    have h1:=hss.out i
    obtain ⟨e1,e2⟩:=hsb.out i (by omega)
    obtain ⟨e3,e4⟩:=htb.out i hlt
    generalize (k.v i).from_=f at hcell h1
    generalize t.getD i 0=y at hcelt h1 e3 e4
    generalize hz:S (i+1)=z at h1
    generalize S i=x at h1 e1 e2
    by_cases hf:f < 0
    ·have hfd:decide (f < 0)=true:=decide_eq_true hf
     rw [if_pos hf] at h1
     subst h1
     replace hz:=aj hz
     go_wp2_with (((with_reducible refine gL ?_);refine nC hS rfl rfl rfl ?_);refine ⟨_,zd,?_⟩;clear hS;(try clear w');refine zF ?_;intro w' hS)
     go_roundw
     case rel=>exact ⟨i+1,by omega,by go_num,by rw [hz.out],hS.aG⟩
     case measure=>simp only [intOf];omega
    ·have hfd:decide (f < 0)=false:=decide_eq_false hf
     rw [if_neg hf,Int.add_zero] at h1
     subst h1
     replace hz:=aj hz
     go_wp2_with (((with_reducible refine gL ?_);refine nC hS rfl rfl rfl ?_);refine ⟨_,zd,?_⟩;clear hS;(try clear w');refine zF ?_;intro w' hS)
     go_roundw
     case rel=>exact ⟨i+1,by omega,by go_num,by rw [hz.out],hS.aG⟩
     case measure=>simp only [intOf];omega
   ·obtain rfl:i=k.n:=by omega
    have q1:S k.n=lost+stand:=msrc
    obtain ⟨e1,e2⟩:=hsb.out k.n (by omega)
    generalize S k.n=src at q1 e1 e2
    subst q1
    have d1:decide (a1≤lost)=true:=decide_eq_true m1
    have d2:decide (lost≤a2)=true:=decide_eq_true m2
    have d3:decide (a1≤mine)=true:=decide_eq_true m5
    have d4:decide (mine≤a2)=true:=decide_eq_true m6
    have d5:decide (s1≤stand)=true:=decide_eq_true m3
    have d6:decide (stand≤s2)=true:=decide_eq_true m4
    go_wp2_with (fail)
    refine au (aA ?_)
    go_wp2_with (go_at_call 47;refine aH hS ⟨_,hto9.out _ (St.view hS),?_⟩;clear hS;(try clear w');intro w' hS)
    refine au (ig (abP 42 (by decide) ?_))
    simp only [List.take_succ_cons,List.take_zero]
    go_wp2_with (((with_reducible refine gL ?_);refine gY hS rfl rfl rfl ?_);refine ⟨_,zd,?_⟩;clear hS;(try clear w');refine zF ?_;intro w' hS)
    refine bG (tgt:=[.inRegion aeG [42,43,44],.code .ret]) ?_
    refine acy 144 hS hB rfl rfl rfl rfl rfl rfl ?_
    clear hS;(try clear w');intro w' a' hS hp
    simp only [fr] at hp
    subst hp
    refine abr (tgt:=[.code .ret]) (by kernel_rfl) rfl hS ?_
    clear hS;(try clear w');intro w' hS
    refine abe 43 rfl ?_
    simp only [List.drop_succ_cons,List.drop_zero]
    go_wp2_with (fail)
    refine dH (bG (tgt:=[.code .ret]) ?_)
    exact ac2 Tryd.func7 hS rfl (fun w=>bH (r1:=.tmp 2) (by kernel_rfl) (bD rfl)))
end Go.Proofs.YtjjmefieegcddaaDoor
namespace Go.Proofs.YtjjmefieegcddaaDoor
open Go.RowKit Go.Wg Go.Mm Go.Wk
open Go Go.Sr Go.Ph Go.Tm Go.Conc
variable {w w0:World} {V:View}
noncomputable def p7a (l:List Nat):List Item:=[.inRegion aeW l,.code E7b]
noncomputable def p7b (l:List Nat):List Item:=[.inRegion aeP l,.code E7c]
set_option maxRecDepth 40000 in
theorem aei {lv:Value} {l:List Int} (hB:Bs V) (hg:Go.Wg.gN≤w.heap.size) (hl:VI V lv l) (hV:V.In w):RB 7 (fun r w'=>r=.returned (.bool true)∧Kp w w') [.code B7] ⟨#[lv] ++ Array.replicate 145 undef,[]⟩ w:=by
 have hS:=St.start w V hV
 obtain ⟨la,lcap,hlv,hlc,hlm,hle⟩:=hl.is
 clear hle hlc hlm
 subst hlv
 simp only [Array.replicate_succ,Array.replicate_zero,List.push_toArray,List.append_toArray,List.nil_append,List.cons_append]
 refine abr (tgt:=p7a [1,2,3,4,5,6,7]) (by kernel_rfl) rfl hS ?_
 clear hS;intro w' hS
 refine au (aA ?_)
 go_wp2_with (fail)
 refine au (aA ?_)
 go_wp2_with (first | (first | (((with_reducible refine gS ?_);refine bQ hS rfl rfl rfl ?_);refine ⟨_,zd,?_⟩;clear hS;(try clear w');refine zF ?_;intro w' hS;(try simp only [sE] at hS)) | ((with_reducible refine gA ?_);refine aT 3 rfl hS rfl rfl ?_;clear hS;(try clear w');intro b3;refine zF ?_;intro w' hS)) | (go_at_call 23;refine Aj hS ⟨_,_,SY ⟨_,_,_,rfl⟩,?_⟩;clear hS;(try clear w');intro bh w' hS) | (go_at_call 38;refine (Ub (V:=V) ⟨⟨l,hl⟩,by decide,by decide⟩ (by decide) (by decide) (by decide) (St.view hS) (hS.off _ (List.mem_cons_self ..) bh rfl) (St.dR hS)).mono ?_;rintro _ w1 ⟨k,ws,vv,rv,mv,c1,s1,rfl,hok,hkn,hrl,htr,k1,k2,hS1⟩;have hS0:=hS.comp (j:=0) rfl (hS1.perm (List.perm_append_comm (l₁:=[_,_,_]) (l₂:=[_])));have hS00:St w [] V (.row mv 3 1 ws.length (aV ws) :: [.row vv 29 4 k.n (fD k.ves),.row rv 59 4 k.rdg.length (fH k.rdg),.blk bh 90 (jv _ c1 s1)]) w1:=(by rw [htr.len];exact hS0);obtain ⟨V0,hV0,hS2,hmv0⟩:=RP hS00;obtain ⟨V1,hV1,hS3,hk⟩:=Eh hS2 hg (hB.mono hV0) ⟨hok.pos,by have:=hok.le;omega,by omega⟩;clear hS hS0 hS00 hS1 hS2;(try clear w');have hS:=hS3;clear hS3;have hmv:=IU hmv0 hV1;have hmo:=wO hmv;have hone2:=qB (wO hk.ves) (wO hk.rdg)))
 obtain ⟨V2,hV2,hc1,hS2⟩:=pin hS
 clear hS
 have hS:=hS2
 clear hS2
 have hB2:Bs V2:=((hB.mono hV0).mono hV1).mono hV2
 have hk2:=jf hk hV2
 have hm2:=IU hmv hV2
 have hr3:V2.Range b3 0 [vv,rv]:=fun j v hj=>by rw [Nat.zero_add];exact hc1 j v hj
 have hr3':([vv,rv]).length=2:=rfl
 obtain ⟨wt,ht,htE,hfi⟩:=ad3 hok (adq hok htr)
 have htt:=aeD hok ht
 have hlo:=aeA hok ht
 have hsv:=aea hok ht
 obtain ⟨a1,a2,ha⟩:∃ a1 a2,dW k (aN k aC) false=(a1,a2):=⟨_,_,rfl⟩
 obtain ⟨s1',s2',hs⟩:∃ a1 a2,dW k (aN k aC) true=(a1,a2):=⟨_,_,rfl⟩
 rw [ha] at hlo
 rw [hs] at hsv
 have hfi':=hfi ws htr
 generalize listOf k wt=t at htE htt hfi'
 clear hc1 hB hmv hmv0 hmo hk hfi ht
 replace hfi':=aj hfi';replace htr:=aj htr;replace htt:=aj htt
 refine au (aA ?_)
 go_wp2_with (first | (((with_reducible refine gL ?_);refine zQ hS rfl rfl rfl ?_);refine ⟨_,zd,?_⟩;clear hS;(try clear w');refine zF ?_;intro w' hS) | (go_at_call 27;refine Ls hS hB2 hk2 htE ?_;clear hS;(try clear w');intro V3 tv w' hV3 htv hto hS))
 have hr33:=hr3.mono hV3
 refine au (aA ?_)
 go_wp2_with (first | (((with_reducible refine gL ?_);refine zQ hS rfl rfl rfl ?_);refine ⟨_,zd,?_⟩;clear hS;(try clear w');refine zF ?_;intro w' hS) | (go_at_call 44;refine adM hS (adQ (jf hk2 hV3) hok htv htt.out (St.view hS)) ?_;clear hS;(try clear w');intro V4 v7 w' hV4 hv7 h7o hS))
 have hr34:=hr33.mono hV4
 have hm4:=IU (IU hm2 hV3) hV4
 refine au (aA ?_)
 go_wp2_with (first | (((with_reducible refine gL ?_);refine zQ hS rfl rfl rfl ?_);refine ⟨_,zd,?_⟩;clear hS;(try clear w');refine zF ?_;intro w' hS) | (go_at_call 44;refine adM hS (adQ (jf (jf hk2 hV3) hV4) hok hm4 htr.out (St.view hS)) ?_;clear hS;(try clear w');intro V5 v9 w' hV5 hv9 h9o hS))
 have hr35:=hr34.mono hV5
 have hk5:=jf (jf (jf hk2 hV3) hV4) hV5
 have hB5:Bs V5:=((hB2.mono hV3).mono hV4).mono hV5
 have hm5:=IU hm4 hV5
 have ht5:=IU (IU htv hV4) hV5
 have h75:=IU hv7 hV5
 refine au (ig (abP 1 (by decide) ?_))
 simp only [List.take_succ_cons,List.take_zero]
 go_wp2_with (((with_reducible refine gL ?_);refine zQ hS rfl rfl rfl ?_);refine ⟨_,zd,?_⟩;clear hS;(try clear w');refine zF ?_;intro w' hS)
 refine bG (tgt:=p7a [1,2,3,4,5,6,7]) ?_
 refine acB 45 hS hB5 hk5 hlo rfl rfl rfl rfl rfl rfl ?_
 clear hS;(try clear w');intro w' a' hS hp
 simp only [fr] at hp
 subst hp
 refine abr (tgt:=p7b [1,2,3,4,5,6,7]) (by kernel_rfl) rfl hS ?_
 clear hS;(try clear w');intro w' hS
 refine abe 2 rfl ?_
 simp only [List.drop_succ_cons,List.drop_zero]
 go_wp2_with (first | (((with_reducible refine gS ?_);refine bQ hS rfl rfl rfl ?_);refine ⟨_,zd,?_⟩;clear hS;(try clear w');refine zF ?_;intro w' hS;(try simp only [sE] at hS)) | (((with_reducible refine gA ?_);refine dM hS rfl rfl ?_);clear hS;(try clear w');intro _;refine zF ?_;intro w' hS))
 refine dH (au (ig (abP 1 (by decide) ?_)))
 simp only [List.take_succ_cons,List.take_zero]
 go_wp2_with (((with_reducible refine gL ?_);refine zQ hS rfl rfl rfl ?_);refine ⟨_,zd,?_⟩;clear hS;(try clear w');refine zF ?_;intro w' hS)
 refine bG (tgt:=p7b [1,2,3,4,5,6,7]) ?_
 refine aes 50 hS hB5 hk5 hsv rfl rfl rfl rfl rfl rfl ?_
 clear hS;(try clear w');intro w' a' hS hp
 simp only [fr] at hp
 subst hp
 refine abr (tgt:=[.code E7c]) (by kernel_rfl) rfl hS ?_
 clear hS;(try clear w');intro w' hS
 refine abe 2 rfl ?_
 simp only [List.drop_succ_cons,List.drop_zero]
 go_wp2_with (first | (((with_reducible refine gS ?_);refine bQ hS rfl rfl rfl ?_);refine ⟨_,zd,?_⟩;clear hS;(try clear w');refine zF ?_;intro w' hS;(try simp only [sE] at hS)) | (((with_reducible refine gA ?_);refine dM hS rfl rfl ?_);clear hS;(try clear w');intro _;refine zF ?_;intro w' hS))
 refine dH (bG (tgt:=[.code E7c]) ?_)
 exact aey hB5 hk5 hok hr35 htt.out htr.out hm5 ht5 h75 hv9 hfi'.out ha hs _ hS.aG _ _ _ _ _ _ _ _ _ _ _ _ _ _ _ _ _ _ _ _ _ _ _ _ _ _ _ _ _ _ _ _ _ _ _ _ _ _ _ _ _ _ _ _ _ _ _ _ _ _ _ _ _ _ _ _ _ _ _ _ _ _ _ _ _ _ _ _ _ _ _ _ _ _ _ _ _ _ _ _ _ _ _ _ _ _ _ _ _ _ _ _ _ _ _ _ _ _ _ _ _ _ _ _ _ _ _ _ _ _ _ _ _ _ _ _ _ _ _ _ _ _ _ _ _ _ _ _ _ _ _ _
theorem aeH {lv:Value} {l:List Int} (hB:Bs V) (hg:Go.Wg.gN≤w.heap.size) (hl:VI V lv l) (hV:V.In w) (hh:ay OC w):kL Tryd.prog 7 #[lv] w fun r w'=>r=.returned (.bool true)∧Kp w w' :=
 abY (B:=B7) (m:=145) Tryd.func7 (show Tryd.f7.body=some B7 from rfl) (by kernel_rfl) hh (aei hB hg hl hV)
end Go.Proofs.YtjjmefieegcddaaDoor
