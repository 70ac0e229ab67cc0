/- A part of the proof: W97, Q9, W98. -/
import Derived.Test.YtjjmefieegcddaaDoorH14
import Derived.Test.YtjjmefieegcddaaDoorH13
set_option linter.unusedVariables false
set_option linter.unusedSimpArgs false
set_option maxHeartbeats 8000000
set_option maxRecDepth 20000
namespace Go.Proofs.YtjjmefieegcddaaDoor
open Go.RowKit Go.Wg Go.Mm Go.Wk
open Go Go.Sr Go.Ph Go.Tm Go.Conc
variable {w w0:World} {V:View}
noncomputable def ada:Code:=match B14 with | .seq _ (.seq _ (.seq _ (.seq _ r)))=>r | _=>.skip
set_option maxRecDepth 40000 in
theorem ac1 {k:Wk} {r:je} {vv rv rv' lv hv:Value} {bh b4 b6:Nat} {c s:Int} (hB:Bs V) (hg:Go.Wg.gN≤w0.heap.size) (hk:iJ V vv rv k) (hok:k.Ok) (hc9:c≤900000) (h5:k.rdg.length≤5) (hr4:V.Range b4 0 [vv,rv]) (hx:iJ V vv rv' (k.plus r)) (hok':(k.plus r).Ok) (hr6:V.Range b6 0 [vv,rv']) (hto:xB V bh hv c) {w1:Nat→Nat} (h0:Hu k (aN k aC) w1) (w:World) (hS:St w0 [] V [.blk bh 90 (jv hv c s)] w) (u1 u2 u5 u7 u8 u9 u10 u11 u12 u13 u14 u15 u16 u17 u18 u19 u20 u21 u22 u23 u24 u25 u26 u27 u28 u29 u30 u31 u32 u33 u34 u35 u36 u37 u38 u39 u40 u41 u42 u43 u44 u45 u46 u47 u48 u49 u50 u51 u52 u53 u54 u55 u56 u57 u58 u59 u60 u61 u62 u63 u64 u65 u66 u67 u68 u69 u70 u71 u72 u73 u74 u75 u76 u77 u78 u79 u80 u81 u82 u83 u84 u85 u86 u87 u88 u89 u90:Value) :
  RB 14 (fun r w'=>r=.returned (.bool true)∧Kp w0 w') [.code ada] ⟨#[lv,u1,u2,.pointer (some ⟨bh,0,none⟩),.pointer (some ⟨b4,0,none⟩),u5,.pointer (some ⟨b6,0,none⟩),u7,u8,u9,u10,u11,u12,u13,u14,u15,u16,u17,u18,u19,u20,u21,u22,u23,u24,u25,u26,u27,u28,u29,u30,u31,u32,u33,u34,u35,u36,u37,u38,u39,u40,u41,u42,u43,u44,u45,u46,u47,u48,u49,u50,u51,u52,u53,u54,u55,u56,u57,u58,u59,u60,u61,u62,u63,u64,u65,u66,u67,u68,u69,u70,u71,u72,u73,u74,u75,u76,u77,u78,u79,u80,u81,u82,u83,u84,u85,u86,u87,u88,u89,u90],[]⟩ w:=by
 have htail:∀ (w:World) (u1 u2 u5 u6 u7 u8 u9 u10 u11 u12 u13 u14 u15 u16 u17 u18 u19 u20 u21 u22 u23 u24 u25 u26 u27 u28 u29 u30 u31 u32 u33 u34 u35 u36 u37 u38 u39 u40 u41 u42 u43 u44 u45 u46 u47 u48 u49 u50 u51 u52 u53 u54 u55 u56 u57 u58 u59 u60 u61 u62 u63 u64 u65 u66 u67 u68 u69 u70 u71 u72 u73 u74 u75 u76 u77 u78 u79 u80 u81 u82 u83 u84 u85 u86 u87 u88 u89 u90:Value),St w0 [] V [.blk bh 90 (jv hv c s)] w→RB 14 (fun r w'=>r=.returned (.bool true)∧Kp w0 w') [.code E14] ⟨#[lv,u1,u2,.pointer (some ⟨bh,0,none⟩),.pointer (some ⟨b4,0,none⟩),u5,u6,u7,u8,u9,u10,u11,u12,u13,u14,u15,u16,u17,u18,u19,u20,u21,u22,u23,u24,u25,u26,u27,u28,u29,u30,u31,u32,u33,u34,u35,u36,u37,u38,u39,u40,u41,u42,u43,u44,u45,u46,u47,u48,u49,u50,u51,u52,u53,u54,u55,u56,u57,u58,u59,u60,u61,u62,u63,u64,u65,u66,u67,u68,u69,u70,u71,u72,u73,u74,u75,u76,u77,u78,u79,u80,u81,u82,u83,u84,u85,u86,u87,u88,u89,u90],[]⟩ w:=fun w u1 u2 u5 u6 u7 u8 u9 u10 u11 u12 u13 u14 u15 u16 u17 u18 u19 u20 u21 u22 u23 u24 u25 u26 u27 u28 u29 u30 u31 u32 u33 u34 u35 u36 u37 u38 u39 u40 u41 u42 u43 u44 u45 u46 u47 u48 u49 u50 u51 u52 u53 u54 u55 u56 u57 u58 u59 u60 u61 u62 u63 u64 u65 u66 u67 u68 u69 u70 u71 u72 u73 u74 u75 u76 u77 u78 u79 u80 u81 u82 u83 u84 u85 u86 u87 u88 u89 u90 hS=>acP hB hg hk hok hc9 h5 hr4 hto h0 w hS _ _ _ _ _ _ _ _ _ _ _ _ _ _ _ _ _ _ _ _ _ _ _ _ _ _ _ _ _ _ _ _ _ _ _ _ _ _ _ _ _ _ _ _ _ _ _ _ _ _ _ _ _ _ _ _ _ _ _ _ _ _ _ _ _ _ _ _ _ _ _ _ _ _ _ _ _ _ _ _ _ _ _ _ _ _ _ _
 have hk0:=hk
 have hx0:=hx
 obtain ⟨va,vcap,hvv,_⟩:=hk0.ves.is
 obtain ⟨ra,rcap,hrv,_⟩:=hk0.rdg.is
 obtain ⟨xa,xcap,hxv,_⟩:=hx0.rdg.is
 subst hvv;subst hrv;subst hxv
 clear hk0 hx0
 have hr4':([Value.slice va k.n vcap,.slice ra k.rdg.length rcap]).length=2:=rfl
 have hr6':([Value.slice va k.n vcap,.slice xa (k.plus r).rdg.length xcap]).length=2:=rfl
 have hone4:∀ u∈[Value.slice va k.n vcap,.slice ra k.rdg.length rcap],u.oneCell'=true:=qB rfl rfl
 have hone6:∀ u∈[Value.slice va k.n vcap,.slice xa (k.plus r).rdg.length xcap],u.oneCell'=true:=qB rfl rfl
 have hcan:=adi hok'
 have hlost:=acA hok'
 have hlost0:=acA hok
 have hck:can k (aN k aC)=true:=(QS hok (gG _ _)).2 ⟨w1,h0⟩
 rw [hck] at hlost0
 have hpl:can (k.plus r) (aN (k.plus r) aC)=true→((dW k (aN k aC) false).1≤(dW (k.plus r) (aN (k.plus r) aC) false).1∧(dW (k.plus r) (aN (k.plus r) aC) false).2≤(dW k (aN k aC) false).2)∧∀ w,V.In w→Calls Tryd.prog 65 #[.agg #[.slice va k.n vcap,.slice xa (k.plus r).rdg.length xcap],.agg #[.slice va k.n vcap,.slice ra k.rdg.length rcap],.bool false] w fun e w'=>e=.returned (.bool true)∧Kp w w':=fun h=>by
  obtain ⟨w2,h2⟩:=(QS hok' (gG _ _)).1 h
  exact ⟨ach hok hok' h2,fun w hV=>acd hB hk hok hx hok' h2 hV⟩
 generalize can (k.plus r) (aN (k.plus r) aC)=cb at hcan hlost hpl
 generalize dW (k.plus r) (aN (k.plus r) aC) false=y at hlost hpl
 generalize dW k (aN k aC) false=x at hlost0 hpl
 obtain ⟨x1,x2⟩:=x
 obtain ⟨y1,y2⟩:=y
 clear hck h0
 replace htail:=aj htail
 cases cb with
 | false =>
  clear hpl hlost hlost0
  refine abr (tgt:=[.code E14]) (by kernel_rfl) rfl hS ?_
  clear hS;intro w' hS
  refine au (aA ?_)
  go_wp2_with (first | (((with_reducible refine gL ?_);refine zQ hS rfl rfl rfl ?_);refine ⟨_,zd,?_⟩;clear hS;(try clear w');refine zF ?_;intro w' hS) | (go_at_call 25;refine abD hS hB hx hcan ?_;clear hS;(try clear w');intro w' hS))
  refine au (aA ?_)
  go_wp2_with (fail)
  refine au (aA ?_)
  go_wp2_with (fail)
  refine bG (tgt:=[.code E14]) ?_
  exact htail.out _ _ _ _ _ _ _ _ _ _ _ _ _ _ _ _ _ _ _ _ _ _ _ _ _ _ _ _ _ _ _ _ _ _ _ _ _ _ _ _ _ _ _ _ _ _ _ _ _ _ _ _ _ _ _ _ _ _ _ _ _ _ _ _ _ _ _ _ _ _ _ _ _ _ _ _ _ _ _ _ _ _ _ _ _ _ _ _ _ hS.aG
 | true =>
  obtain ⟨⟨i1,i2⟩,hwi⟩:=hpl rfl
  have q1:decide (y1 < x1)=false:=by rw [decide_eq_false_iff_not];simp only at i1;omega
  have q2:decide (x2 < y2)=false:=by rw [decide_eq_false_iff_not];simp only at i2;omega
  clear i1 i2 hpl
  replace hwi:=aj hwi
  refine abr (tgt:=ady [1,2,3,4,5,6,7]) (by kernel_rfl) rfl hS ?_
  clear hS;intro w' hS
  refine au (aA ?_)
  go_wp2_with (first | (((with_reducible refine gL ?_);refine zQ hS rfl rfl rfl ?_);refine ⟨_,zd,?_⟩;clear hS;(try clear w');refine zF ?_;intro w' hS) | (go_at_call 25;refine abD hS hB hx hcan ?_;clear hS;(try clear w');intro w' hS))
  refine au (aA ?_)
  go_wp2_with (fail)
  refine au (au (aA ?_))
  go_wp2_with (fail)
  refine dZ (o:=.tmp 33) (t:=true) (by rfl) ?_
  refine au (ig (abP 1 (by decide) ?_))
  simp only [List.take_succ_cons,List.take_zero]
  go_wp2_with (((with_reducible refine gL ?_);refine zQ hS rfl rfl rfl ?_);refine ⟨_,zd,?_⟩;clear hS;(try clear w');refine zF ?_;intro w' hS)
  refine bG (tgt:=ady [1,2,3,4,5,6,7]) ?_
  refine acB 36 hS hB hk hlost0 rfl rfl rfl rfl rfl rfl ?_
  clear hS;(try clear w');intro w' a' hS hp
  simp only [fr] at hp
  subst hp
  refine abr (tgt:=adE [1,2,3,4,5,6,7]) (by kernel_rfl) rfl hS ?_
  clear hS;(try clear w');intro w' hS
  refine abe 2 rfl ?_
  simp only [List.drop_succ_cons,List.drop_zero]
  go_wp2_with (first | (((with_reducible refine gS ?_);refine bQ hS rfl rfl rfl ?_);refine ⟨_,zd,?_⟩;clear hS;(try clear w');refine zF ?_;intro w' hS;(try simp only [sE] at hS)) | (((with_reducible refine gA ?_);refine dM hS rfl rfl ?_);clear hS;(try clear w');intro _;refine zF ?_;intro w' hS))
  refine dH (au (ig (abP 1 (by decide) ?_)))
  simp only [List.take_succ_cons,List.take_zero]
  go_wp2_with (((with_reducible refine gL ?_);refine zQ hS rfl rfl rfl ?_);refine ⟨_,zd,?_⟩;clear hS;(try clear w');refine zF ?_;intro w' hS)
  refine bG (tgt:=adE [1,2,3,4,5,6,7]) ?_
  refine acB 41 hS hB hx hlost rfl rfl rfl rfl rfl rfl ?_
  clear hS;(try clear w');intro w' a' hS hp
  simp only [fr] at hp
  subst hp
  refine abr (tgt:=[.code E14]) (by kernel_rfl) rfl hS ?_
  clear hS;(try clear w');intro w' hS
  refine abe 2 rfl ?_
  simp only [List.drop_succ_cons,List.drop_zero]
  go_wp2_with (first | (((with_reducible refine gS ?_);refine bQ hS rfl rfl rfl ?_);refine ⟨_,zd,?_⟩;clear hS;(try clear w');refine zF ?_;intro w' hS;(try simp only [sE] at hS)) | (((with_reducible refine gA ?_);refine dM hS rfl rfl ?_);clear hS;(try clear w');intro _;refine zF ?_;intro w' hS))
  refine dH (aA ?_)
  conv=>enter [2];whnf
  go_wp2_with (first | (((with_reducible refine gL ?_);first | refine gY hS rfl rfl rfl ?_ | refine zQ hS rfl rfl rfl ?_);refine ⟨_,zd,?_⟩;clear hS;(try clear w');refine zF ?_;intro w' hS) | (go_at_call 65;refine aH hS ⟨_,hwi.out _ (St.view hS),?_⟩;clear hS;(try clear w');intro w' hS))
  refine bG (tgt:=[.code E14]) ?_
  exact htail.out _ _ _ _ _ _ _ _ _ _ _ _ _ _ _ _ _ _ _ _ _ _ _ _ _ _ _ _ _ _ _ _ _ _ _ _ _ _ _ _ _ _ _ _ _ _ _ _ _ _ _ _ _ _ _ _ _ _ _ _ _ _ _ _ _ _ _ _ _ _ _ _ _ _ _ _ _ _ _ _ _ _ _ _ _ _ _ _ _ hS.aG
end Go.Proofs.YtjjmefieegcddaaDoor
namespace Go.Mm
open Go
variable {P:Program} {w0:World} {X:List Nat} {V:View} {L:List dF} {w:World}
variable {l:List Oper} {md:Region.Mode} {o:Oper} {a:Act} {Q:Exit→Act→World→Prop} {S:World→Prop} {fuel:Nat} {listed:Array Bool}
theorem gHd {l:Array Oper} (h:wpAnyH P md l Q S fuel listed a w):wpAnyH P md l Q S fuel listed a w:=h
theorem gWo {l:Array Oper} {i:Nat} {K:Act→World→Prop} (h:wpOp P l Q i K a w):wpOp P l Q i K a w:=h
theorem acZ (i:Nat) (hi₀:l[i]? = some o) (hS:St w0 X V L w) (hw:Region.wanted o (yielded l.toArray a.tmps)=true) {ty:TypeId} (ho:o.op=.alloc ty) {cs:List Value} [hz:lX P ty cs]
  (h:∀ b a' l',a.put o.dst (.pointer (some ⟨b,0,none⟩))=a'→listed.setIfInBounds i true=l'→∀ w',St w0 X V (.blk b ty cs :: L) w'→S w'∧wpAnyH P md l.toArray Q S fuel l' a' w') :
  wpOp P l.toArray Q i (fun a' w'=>S w'∧wpAnyH P md l.toArray Q S fuel (listed.setIfInBounds i true) a' w') a w :=
 abN hS (jV hi₀) hw ho hz.has hz.ok fun b w' hS'=>h b _ _ rfl rfl w' hS'
end Go.Mm
namespace Go.Proofs.YtjjmefieegcddaaDoor
open Go.RowKit Go.Wg Go.Mm Go.Wk
open Go Go.Sr Go.Ph Go.Tm Go.Conc
variable {w w0:World} {V:View}
set_option maxRecDepth 40000 in
theorem acf {lv:Value} {l:List Int} (hB:Bs V) (hg:Go.Wg.gN≤w.heap.size) (hl:VI V lv l) (hV:V.In w):RB 14 (fun r w'=>r=.returned (.bool true)∧Kp w w') [.code B14] ⟨#[lv] ++ Array.replicate 90 undef,[]⟩ w:=by
 have hS:=St.start w V hV
 obtain ⟨la,lcap,hlv,hlc,hlm,hle⟩:=hl.is
 clear hle hlc hlm
 subst hlv
 simp only [Array.replicate_succ,Array.replicate_zero,List.push_toArray,List.append_toArray,List.nil_append,List.cons_append]
 refine abr (tgt:=[.code ada]) (by kernel_rfl) rfl hS ?_
 clear hS;intro w' hS
 refine au (aA ?_)
 go_wp2_with (fail)
 refine au (aA ?_)
 go_wp2_with (go_at_call 23;refine Aj hS ⟨_,_,SY ⟨_,_,_,rfl⟩,?_⟩;clear hS;(try clear w');intro bh w' hS)
 refine au (aA ?_)
 go_wp2_with (first | (first | (((with_reducible refine gS ?_);refine bQ hS rfl rfl rfl ?_);refine ⟨_,zd,?_⟩;clear hS;(try clear w');refine zF ?_;intro w' hS;(try simp only [sE] at hS)) | ((with_reducible refine gA ?_);refine aT 4 rfl hS rfl rfl ?_;clear hS;(try clear w');intro b4;refine zF ?_;intro w' hS)) | (go_at_call 38;refine (Ub (V:=V) ⟨⟨l,hl⟩,by decide,by decide⟩ (by decide) (by decide) (by decide) (St.view hS) (hS.off _ (List.mem_cons_self ..) bh rfl) (St.dR hS)).mono ?_;rintro _ w1 ⟨k,ws,vv,rv,mv,c1,s1,rfl,hok,hkn,hrl,htr,k1,k2,hS1⟩;have hS0:=hS.comp (j:=0) rfl (hS1.perm (List.perm_append_comm (l₁:=[_,_,_]) (l₂:=[_])));have hS00:St w [] V (.row mv 3 1 ws.length (aV ws) :: [.row vv 29 4 k.n (fD k.ves),.row rv 59 4 k.rdg.length (fH k.rdg),.blk bh 90 (jv _ c1 s1)]) w1:=(by rw [htr.len];exact hS0);obtain ⟨V0,hV0,hS2,hmv0⟩:=RP hS00;obtain ⟨V1,hV1,hS3,hk⟩:=Eh hS2 hg (hB.mono hV0) ⟨hok.pos,by have:=hok.le;omega,by omega⟩;clear hS hS0 hS00 hS1 hS2;(try clear w');have hS:=hS3;clear hS3;have hmv:=IU hmv0 hV1;have hmo:=wO hmv;have hone2:=qB (wO hk.ves) (wO hk.rdg)))
 obtain ⟨V2,hV2,hc1,hS2⟩:=pin hS
 clear hS
 have hS:=hS2
 clear hS2
 have hB2:Bs V2:=((hB.mono hV0).mono hV1).mono hV2
 have hl2:VI V2 (.slice la l.length lcap) l:=IU (IU (IU hl hV0) hV1) hV2
 have hto1:xB V2 bh (.slice la l.length lcap) c1:=⟨⟨l,hl2⟩,by omega,by omega⟩
 have hk2:=jf hk hV2
 have hr4:V2.Range b4 0 [vv,rv]:=fun j v hj=>by rw [Nat.zero_add];exact hc1 j v hj
 have hr4':([vv,rv]).length=2:=rfl
 have h0:=adq hok htr
 have hvo1:vv.oneCell'=true:=wO hk2.ves
 have h5:k.rdg.length≤5:=by omega
 have hwi:=fun (r:je) w (hV:V2.In w)=>Qd (w:=w) hk2 r hV
 have hvw:∀ (r:je) (_:r.Ok k.n) (rv':Value) (L:List dF) (w':World),St w [] V2 (.row rv' 59 4 (k.plus r).rdg.length (fH (k.plus r).rdg) :: L) w'→∃ V',(∀ j o,V2 j=some o→V' j=some o)∧St w [] V' L w'∧iJ V' vv rv' (k.plus r):=fun r hr _ _ _ h=>xG (k:=k) (l:=(k.plus r).rdg) h hg hk2 (Nat.le_trans (Go.Wg.yT hok h5 hr).rdl (by decide))
 have hmid:∀ (r:je) (_:r.Ok k.n) (V4:View) (_:∀ j o,V2 j=some o→V4 j=some o) (rv':Value) (b6:Nat) (c s:Int) (_:iJ V4 vv rv' (k.plus r)) (_:V4.Range b6 0 [vv,rv']) (_:c1≤c) (_:c≤c1+4) (w1:World) (u1 u2 u5 u7 u8 u9 u10 u11 u12 u13 u14 u15 u16 u17 u18 u19 u20 u21 u22 u23 u24 u25 u26 u27 u28 u29 u30 u31 u32 u33 u34 u35 u36 u37 u38 u39 u40 u41 u42 u43 u44 u45 u46 u47 u48 u49 u50 u51 u52 u53 u54 u55 u56 u57 u58 u59 u60 u61 u62 u63 u64 u65 u66 u67 u68 u69 u70 u71 u72 u73 u74 u75 u76 u77 u78 u79 u80 u81 u82 u83 u84 u85 u86 u87 u88 u89 u90:Value),St w [] V4 [.blk bh 90 (jv (.slice la l.length lcap) c s)] w1 →
   RB 14 (fun r w'=>r=.returned (.bool true)∧Kp w w') [.code ada] ⟨#[.slice la l.length lcap,u1,u2,.pointer (some ⟨bh,0,none⟩),.pointer (some ⟨b4,0,none⟩),u5,.pointer (some ⟨b6,0,none⟩),u7,u8,u9,u10,u11,u12,u13,u14,u15,u16,u17,u18,u19,u20,u21,u22,u23,u24,u25,u26,u27,u28,u29,u30,u31,u32,u33,u34,u35,u36,u37,u38,u39,u40,u41,u42,u43,u44,u45,u46,u47,u48,u49,u50,u51,u52,u53,u54,u55,u56,u57,u58,u59,u60,u61,u62,u63,u64,u65,u66,u67,u68,u69,u70,u71,u72,u73,u74,u75,u76,u77,u78,u79,u80,u81,u82,u83,u84,u85,u86,u87,u88,u89,u90],[]⟩ w1 :=
  fun r hr V4 hV4 rv' b6 c s hx hr6 h1 h2 w1 u1 u2 u5 u7 u8 u9 u10 u11 u12 u13 u14 u15 u16 u17 u18 u19 u20 u21 u22 u23 u24 u25 u26 u27 u28 u29 u30 u31 u32 u33 u34 u35 u36 u37 u38 u39 u40 u41 u42 u43 u44 u45 u46 u47 u48 u49 u50 u51 u52 u53 u54 u55 u56 u57 u58 u59 u60 u61 u62 u63 u64 u65 u66 u67 u68 u69 u70 u71 u72 u73 u74 u75 u76 u77 u78 u79 u80 u81 u82 u83 u84 u85 u86 u87 u88 u89 u90 hS=>ac1 (hB2.mono hV4) hg (jf hk2 hV4) hok (by omega) h5 (hr4.mono hV4) hx (Go.Wg.yT hok h5 hr) hr6 ⟨⟨l,IU hl2 hV4⟩,by omega,by omega⟩ h0 w1 hS _ _ _ _ _ _ _ _ _ _ _ _ _ _ _ _ _ _ _ _ _ _ _ _ _ _ _ _ _ _ _ _ _ _ _ _ _ _ _ _ _ _ _ _ _ _ _ _ _ _ _ _ _ _ _ _ _ _ _ _ _ _ _ _ _ _ _ _ _ _ _ _ _ _ _ _ _ _ _ _ _ _ _ _ _ _ _
 clear hc1 hB hmv hmv0 hmo
 replace hwi:=aj hwi;replace hvw:=aj hvw;replace hmid:=aj hmid
 refine au (aA ?_)
 (refine bF (S:=(St w [] V2 [])) [false,false,false,false,false,false,false] rfl (by kernel_rfl) ?_;replace hS:=St.eY hS;(repeat' (first | ((with_reducible refine gHd ?_);(first | ((refine acU 0 rfl (by kernel_rfl) (by kernel_rfl) (by decide +kernel) (fun _ _ _ _ h=>nomatch h.1) rfl (St.aG hS) rfl rfl ?_);refine ⟨_,zd,?_⟩;refine zH ?_) | (refine aar 1 rfl (by kernel_rfl) (by kernel_rfl) (by decide +kernel) rfl rfl (fun _ _ _ h=>nomatch h.1) rfl (St.aG hS) ?_;refine zH ?_) | ((refine acU 2 rfl (by kernel_rfl) (by kernel_rfl) (by decide +kernel) (fun _ _ _ _ h=>nomatch h.1) rfl (St.aG hS) rfl rfl ?_);refine ⟨_,zd,?_⟩;refine zH ?_) | (refine oZ 3 (by decide +kernel) rfl rfl ⟨_,_,zo,?_⟩;refine eF hS ⟨4,_,fun hVb hg=>aa6 hto1 (by omega) hk2 hok (St.view hS) hVb hg,?_⟩;clear hS;(try clear w');intro v24 c5 s5 w' hp hc5 hd5 hS;(try simp only [sE] at hS);obtain ⟨r,rfl,hrok⟩:=hp;refine ⟨_,rfl,?_⟩;refine zH ?_;refine ⟨(St.aG hS),?_⟩) | (refine oZ 4 (by decide +kernel) rfl rfl ⟨_,_,zo,?_⟩;refine (hwi.out r _ (St.view hS)).mono ?_;rintro _ w1 ⟨rv',rfl,hS1⟩;have hS2:=hS.Nq hS1;simp only [List.cons_append,List.nil_append] at hS2;clear hS hS1;(try clear w');have hS:=hS2;clear hS2;have hone3:=qB hvo1 (dY hS rv');refine ⟨_,rfl,?_⟩;refine zH ?_;refine ⟨(St.aG hS),?_⟩) | (refine acW 5 (by decide +kernel) rfl hS rfl  rfl ?_;clear hS;(try clear w');intro b6;refine zH ?_;intro w' hS;refine ⟨(St.aG hS),?_⟩) | ((refine wQ 6 (by decide +kernel) rfl hS rfl  rfl rfl ?_;refine ⟨_,zd,?_⟩);clear hS;(try clear w');refine zH ?_;intro w' hS;(try simp only [sE] at hS);refine ⟨(St.aG hS),?_⟩) | refine nP 3 5 (by decide +kernel) ?_ ?_ | refine nP 4 5 (by decide +kernel) ?_ ?_ | refine wpAnyH_done (by decide +kernel) ?_ _)) | ((with_reducible refine gWo ?_);(first | (refine DZ 3 rfl rfl ⟨_,_,zo,?_⟩;refine eF hS ⟨4,_,fun hVb hg=>aa6 hto1 (by omega) hk2 hok (St.view hS) hVb hg,?_⟩;clear hS;(try clear w');intro v24 c5 s5 w' hp hc5 hd5 hS;(try simp only [sE] at hS);obtain ⟨r,rfl,hrok⟩:=hp;refine ⟨_,rfl,?_⟩;refine zH ?_;refine ⟨(St.aG hS),?_⟩) | (refine DZ 4 rfl rfl ⟨_,_,zo,?_⟩;refine (hwi.out r _ (St.view hS)).mono ?_;rintro _ w1 ⟨rv',rfl,hS1⟩;have hS2:=hS.Nq hS1;simp only [List.cons_append,List.nil_append] at hS2;clear hS hS1;(try clear w');have hS:=hS2;clear hS2;have hone3:=qB hvo1 (dY hS rv');refine ⟨_,rfl,?_⟩;refine zH ?_;refine ⟨(St.aG hS),?_⟩) | (refine acZ 5 rfl hS rfl  rfl ?_;clear hS;(try clear w');intro b6;refine zH ?_;intro w' hS;refine ⟨(St.aG hS),?_⟩))))))
 all_goals (
  try refine ⟨rfl,?_⟩
  (first | (have hE:=hvw.out r hrok _ _ _ hS) | (have hSw:=hS.perm (List.Perm.swap _ _ _);have hE:=hvw.out r hrok _ _ _ hSw))
  obtain ⟨V3,hV3,hS3,hk3⟩:=hE
  obtain ⟨V4,hV4,hc6,hS4⟩:=pin hS3
  refine bG (tgt:=[.code ada]) ?_
  exact hmid.out r hrok V4 (fun j o h=>hV4 j o (hV3 j o h)) rv' _ c5 s5 (jf hk3 hV4) (fun j v hj=>by rw [Nat.zero_add];exact hc6 j v hj) (by omega) (by omega) _ _ _ _ _ _ _ _ _ _ _ _ _ _ _ _ _ _ _ _ _ _ _ _ _ _ _ _ _ _ _ _ _ _ _ _ _ _ _ _ _ _ _ _ _ _ _ _ _ _ _ _ _ _ _ _ _ _ _ _ _ _ _ _ _ _ _ _ _ _ _ _ _ _ _ _ _ _ _ _ _ _ _ _ _ _ _ _ hS4.aG)
theorem adn {lv:Value} {l:List Int} (hB:Bs V) (hg:Go.Wg.gN≤w.heap.size) (hl:VI V lv l) (hV:V.In w) (hh:ay OC w):kL Tryd.prog 14 #[lv] w fun r w'=>r=.returned (.bool true)∧Kp w w' :=
 abY (B:=B14) (m:=90) Tryd.func14 (show Tryd.f14.body=some B14 from rfl) (by kernel_rfl) hh (acf hB hg hl hV)
end Go.Proofs.YtjjmefieegcddaaDoor
