/- WeighUseless returns true on every schedule and leaves its argument as it was. Condition: errors.errorType begins as the text lays it. -/
import Derived.Test.YtjjmefieegcddaaDoorF11
import Derived.Test.YtjjmefieegcddaaDoorCards
import Derived.Test.YtjjmefieegcddaaDoorTie
import Derived.SevenTiedAt
import Derived.Test.YtjjmefieegcddaaDoorF14
set_option linter.unusedVariables false
set_option linter.unusedSimpArgs false
set_option maxHeartbeats 8000000
set_option maxRecDepth 20000
namespace Go.Proofs.YtjjmefieegcddaaDoor
open Go.RowKit Go.Wg Go.Mm Go.Wk
open Go Go.Sr Go.Ph Go.Tm Go.Conc
variable {w w0:World} {V:View}
theorem adg {k:Wk} {vv rv lv v3:Value} {b4:Nat} {L:List dF} (hB:Bs V) (hg:Go.Wg.gN≤w0.heap.size) (hok:k.Ok) {w1:Nat→Nat} (h0:Hu k (aN k aC) w1) (w:World) (hS:St w0 [] V (.row vv 29 4 k.n (fD k.ves) :: .row rv 59 4 k.rdg.length (fH k.rdg) :: .blk b4 25 [vv,rv] :: L) w) (u1 u2 u5 u6 u7 u8 u9 u10 u11 u12 u13 u14 u15 u16 u17 u18 u19 u20 u21 u22 u23 u24 u25 u26 u27 u28 u29 u30 u31 u32 u33 u34 u35 u36 u37 u38 u39 u40 u41 u42 u43 u44 u45 u46 u47 u48 u49 u50 u51 u52 u53 u54 u55 u56 u57 u58 u59 u60 u61 u62 u63 u64 u65 u66 u67 u68 u69 u70 u71 u72 u73 u74 u75 u76 u77 u78 u79 u80 u81 u82 u83 u84 u85 u86 u87 u88 u89 u90 u91 u92 u93:Value) :
  fA Tryd.prog [.inRegion adn [0,1],.code .ret] (Y6 94 w0) [.code E18] ⟨#[lv,u1,u2,v3,.pointer (some ⟨b4,0,none⟩),u5,u6,u7,u8,u9,u10,u11,u12,u13,u14,u15,u16,u17,u18,u19,u20,u21,u22,u23,u24,u25,u26,u27,u28,u29,u30,u31,u32,u33,u34,u35,u36,u37,u38,u39,u40,u41,u42,u43,u44,u45,u46,u47,u48,u49,u50,u51,u52,u53,u54,u55,u56,u57,u58,u59,u60,u61,u62,u63,u64,u65,u66,u67,u68,u69,u70,u71,u72,u73,u74,u75,u76,u77,u78,u79,u80,u81,u82,u83,u84,u85,u86,u87,u88,u89,u90,u91,u92,u93],[]⟩ w:=by
 obtain ⟨V1,hV1,hS2,hk⟩:=Eh hS hg hB ⟨hok.pos,by have:=hok.le;omega,by have:=hok.rdl;omega⟩
 obtain ⟨V2,hV2,hc4,hS3⟩:=pin hS2
 exact adF ((hB.mono hV1).mono hV2) hg (jf hk hV2) hok (fun j v hj=>by rw [Nat.zero_add];exact hc4 j v hj) h0 w hS3.aG _ _ _ _ _ _ _ _ _ _ _ _ _ _ _ _ _ _ _ _ _ _ _ _ _ _ _ _ _ _ _ _ _ _ _ _ _ _ _ _ _ _ _ _ _ _ _ _ _ _ _ _ _ _ _ _ _ _ _ _ _ _ _ _ _ _ _ _ _ _ _ _ _ _ _ _ _ _ _ _ _ _ _ _ _ _ _ _ _ _ _
theorem gHd {P:Program} {md:Region.Mode} {l:Array Oper} {Q:Exit→Act→World→Prop} {S:World→Prop} {fuel:Nat} {listed:Array Bool} {a:Act} (h:wpAnyH P md l Q S fuel listed a w):wpAnyH P md l Q S fuel listed a w:=h
theorem gWo {P:Program} {l:Array Oper} {Q:Exit→Act→World→Prop} {i:Nat} {K:Act→World→Prop} {a:Act} (h:wpOp P l Q i K a w):wpOp P l Q i K a w:=h
theorem aeu {X:List Nat} {L:List dF} {R:Ending→World→Prop} {bh j:Nat} {lv:Value} {c s:Int} {n:Nat} (hS:St w0 X V L w) [hj:Hs L bh j 90 (jv lv c s)] (hh:xB V bh lv c) (hn:0 < n∧n≤1000)
  (h:∀ (x:Nat) c' s' w',x < n→(x:Int) < n→c≤c'→c'≤c+1→St w0 X V (L.set j (.blk bh 90 (jv lv c' s'))) w'→R (.returned (.int .i64 (x:Int))) w'):Calls Tryd.prog 39 #[.pointer (some ⟨bh,0,none⟩),.int .i64 ((n:Int) - 1)] w R :=
 eF hS ⟨1,_,fun hVb hg=>xC hh (by omega) (St.view hS) hVb hg,fun v c' s' w' ⟨y,hv,hy0,hy1⟩ h1 h2 hS'=>by
  obtain ⟨x,hyx⟩:∃ x:Nat,y=(x:Int):=⟨y.toNat,by omega⟩
  subst hyx;subst hv
  exact h x c' s' w' (by omega) (by omega) h1 h2 hS'⟩
theorem aes {X:List Nat} {L:List dF} {g n cap b:Nat} {xs pad news:List Value} (hS:St w0 X V (.blk b 59 news :: .blk g 59 (xs ++ pad) :: L) w) (c2:n≤cap) (c3:cap≤maxLen) (c4:xs.length=n * 4) (c5:(xs ++ pad).length=cap * 4) (c6:∀ c∈pad,iL c=true)
  {o:Oper} {ρ:Operand→Value} {sl x:Operand} (ho:o.op=.call { callee:=.builtin .append,args:=#[sl,x],argTypes:=#[23,23] }) (hv:ρ sl=.slice (some ⟨g,0,none⟩) n cap) (hx:ρ x=.slice (some ⟨b,0,none⟩) 1 1) (hm:news.length=4) (h1:∀ u∈news,u.oneCell'=true) (hn:n≤100) :
  ∃ v' w',(execOp ρ o).run Tryd.prog w=.ok (.value v') w'∧St w0 X V (.row v' 59 4 (n+1) (xs ++ news) :: .blk b 59 news :: L) w':=by
 have hq:=hS.perm (List.Perm.swap _ _ _)
 obtain ⟨v',w',hr,h⟩:=PK (j:=0) (jb:=1) (e:=59) (size:=4) (XT hq c2 c3 c4 c5 c6) ho (by kernel_rfl) rfl hv rfl hx (m:=1) hm h1 (by omega)
 exact ⟨v',w',hr,h⟩
set_option maxRecDepth 40000 in
theorem aei {lv:Value} {l:List Int} (hB:Bs V) (hg:Go.Wg.gN≤w.heap.size) (hl:VI V lv l) (hV:V.In w):fA Tryd.prog [.inRegion adn [0,1],.code .ret] (Y6 94 w) [.code B18] { tmps:=#[lv] ++ Array.replicate 93 undef,defers:=[] } w:=by
 have hS:=St.start w V hV
 obtain ⟨la,lcap,hlv,hlc,hlm,hle⟩:=hl.is
 clear hle hlc hlm
 subst hlv
 simp only [Array.replicate_succ,Array.replicate_zero,List.push_toArray,List.append_toArray,List.nil_append,List.cons_append]
 refine au (aA ?_)
 go_wp2_with (fail)
 refine au (aA ?_)
 go_wp2_with (go_at_call 23;refine Aj hS ⟨_,_,SY ⟨_,_,_,rfl⟩,?_⟩;clear hS;(try clear w');intro bh w' hS)
 refine au (aA ?_)
 go_wp2_with (first | (first | (((with_reducible refine gS ?_);refine bQ hS rfl rfl rfl ?_);refine ⟨_,zd,?_⟩;clear hS;(try clear w');refine zF ?_;intro w' hS;(try simp only [sE] at hS)) | ((with_reducible refine gA ?_);refine aT 4 rfl hS rfl rfl ?_;clear hS;(try clear w');intro b4;refine zF ?_;intro w' hS)) | (go_at_call 38;refine (Ub (V:=V) ⟨⟨l,hl⟩,by decide,by decide⟩ (by decide) (by decide) (by decide) (St.view hS) (hS.off _ (List.mem_cons_self ..) bh rfl) (St.dR hS)).mono ?_;rintro _ w1 ⟨k,ws,vv,rv,mv,c1,s1,rfl,hok,hkn,hrl,htr,k1,k2,hS1⟩;have hS0:=hS.comp (j:=0) rfl (hS1.perm (List.perm_append_comm (l₁:=[_,_,_]) (l₂:=[_])));have hS00:St w [] V (.row mv 3 1 ws.length (aV ws) :: [.row vv 29 4 k.n (fD k.ves),.row rv 59 4 k.rdg.length (fH k.rdg),.blk bh 90 (jv _ c1 s1)]) w1:=(by rw [htr.len];exact hS0);obtain ⟨V0,hV0,hS2,hmv0⟩:=RP hS00;clear hS hS0 hS00 hS1;(try clear w');have hS:=hS2;clear hS2;have hone2:=qB (dY hS vv) (dY hS rv)))
 have hB0:=hB.mono hV0
 have hto:=fun (c:Int) (h1:c1≤c) (h2:c≤1000000)=>(show xB V0 bh (.slice la l.length lcap) c from ⟨⟨l,pW.mono hl hV0⟩,by omega,by omega⟩)
 have hk6:=hok.le
 have hk0:=hok.pos
 have h0:=Wp hok htr
 clear hmv0 hl hB
 have hSp:=hS.perm ((List.perm_append_comm (l₁:=[_,_]) (l₂:=[_])).append_right [_])
 simp only [List.cons_append,List.nil_append] at hSp
 clear hS
 rcases rO hSp with ⟨rfl,hn0⟩ | ⟨g,cap,pad,rfl,c2,c3,c4,c5,c6,hS⟩
 ·have hS:St w [] V0 _ w':=hSp
  refine au (au (aA ?_))
  go_wp2_with (((with_reducible refine gL ?_);refine gY hS rfl rfl rfl ?_);refine ⟨_,zd,?_⟩;clear hS;(try clear w');refine zF ?_;intro w' hS)
  refine au (aA ?_)
  go_wp2_with (fail)
  refine aA ?_
  go_wp2_with (fail)
  exact adg hB0 hg hok h0 _ (hS.perm ((List.perm_append_comm (l₁:=[_,_]) (l₂:=[_])).append_right [_])) _ _ _ _ _ _ _ _ _ _ _ _ _ _ _ _ _ _ _ _ _ _ _ _ _ _ _ _ _ _ _ _ _ _ _ _ _ _ _ _ _ _ _ _ _ _ _ _ _ _ _ _ _ _ _ _ _ _ _ _ _ _ _ _ _ _ _ _ _ _ _ _ _ _ _ _ _ _ _ _ _ _ _ _ _ _ _ _ _ _ _
 ·clear hSp
  have hp4:∀ x,x < k.rdg.length→((fH k.rdg ++ pad).drop (x * 4)).take 4=(k.rdg.getD x default).cells:=fun x hx=>by
   refine List.ext_getElem? fun j=>?_
   rw [List.getElem?_take,List.getElem?_drop]
   by_cases hj:j < 4
   ·rw [if_pos hj,List.getElem?_append_left (by rw [fH,jK _ (fun _=>rfl)];omega),fH,Ei je.cells (fun _=>rfl) k.rdg x (k.rdg.getD x default) (by simp [List.getD_eq_getElem?_getD,List.getElem?_eq_getElem hx]) j hj]
   ·rw [if_neg hj,List.getElem?_eq_none (by show (4:Nat)≤j;omega)]
  have hpl:∀ x,x < k.rdg.length→(k.plus (k.rdg.getD x default)).Ok∧Hu (k.plus (k.rdg.getD x default)) (aN (k.plus (k.rdg.getD x default)) aC) (fun i=>(ws.getD i 0).toNat):=fun x hx=>by
   have hm:k.rdg.getD x default∈k.rdg:=by
    rw [List.getD_eq_getElem?_getD,List.getElem?_eq_getElem hx]
    exact List.getElem_mem hx
   have h1:=Go.Wg.yT hok (by omega) (aef hok hm)
   exact ⟨h1,Wp h1 (Oa htr (htr.rdg _ hm))⟩
  have hlr:(fH k.rdg).length=k.rdg.length * 4:=by rw [fH,jK _ (fun _=>rfl)]
  have hback:∀ (L:List dF) (w':World),St w [] V0 (.blk g 59 (fH k.rdg ++ pad) :: .blk b4 25 [vv,.slice (some ⟨g,0,none⟩) k.rdg.length cap] :: .row vv 29 4 k.n (fD k.ves) :: L) w'→St w [] V0 (.row vv 29 4 k.n (fD k.ves) :: .row (.slice (some ⟨g,0,none⟩) k.rdg.length cap) 59 4 k.rdg.length (fH k.rdg) :: .blk b4 25 [vv,.slice (some ⟨g,0,none⟩) k.rdg.length cap] :: L) w':=fun L w' h =>
   (XT h c2 c3 c4 c5 c6).perm ((List.perm_append_comm (l₁:=[_,_]) (l₂:=[_])).append_right L)
  have hend:∀ (L:List dF) (w':World) (u1 u2 u5 u6 u7 u8 u9 u10 u11 u12 u13 u14 u15 u16 u17 u18 u19 u20 u21 u22 u23 u24 u25 u26 u27 u28 u29 u30 u31 u32 u33 u34 u35 u36 u37 u38 u39 u40 u41 u42 u43 u44 u45 u46 u47 u48 u49 u50 u51 u52 u53 u54 u55 u56 u57 u58 u59 u60 u61 u62 u63 u64 u65 u66 u67 u68 u69 u70 u71 u72 u73 u74 u75 u76 u77 u78 u79 u80 u81 u82 u83 u84 u85 u86 u87 u88 u89 u90 u91 u92 u93:Value),St w [] V0 (.row vv 29 4 k.n (fD k.ves) :: .row (.slice (some ⟨g,0,none⟩) k.rdg.length cap) 59 4 k.rdg.length (fH k.rdg) :: .blk b4 25 [vv,.slice (some ⟨g,0,none⟩) k.rdg.length cap] :: L) w' →
    fA Tryd.prog [.inRegion adn [0,1],.code .ret] (Y6 94 w) [.code E18] ⟨#[.slice la l.length lcap,u1,u2,.pointer (some ⟨bh,0,none⟩),.pointer (some ⟨b4,0,none⟩),u5,u6,u7,u8,u9,u10,u11,u12,u13,u14,u15,u16,u17,u18,u19,u20,u21,u22,u23,u24,u25,u26,u27,u28,u29,u30,u31,u32,u33,u34,u35,u36,u37,u38,u39,u40,u41,u42,u43,u44,u45,u46,u47,u48,u49,u50,u51,u52,u53,u54,u55,u56,u57,u58,u59,u60,u61,u62,u63,u64,u65,u66,u67,u68,u69,u70,u71,u72,u73,u74,u75,u76,u77,u78,u79,u80,u81,u82,u83,u84,u85,u86,u87,u88,u89,u90,u91,u92,u93],[]⟩ w':=fun L w' u1 u2 u5 u6 u7 u8 u9 u10 u11 u12 u13 u14 u15 u16 u17 u18 u19 u20 u21 u22 u23 u24 u25 u26 u27 u28 u29 u30 u31 u32 u33 u34 u35 u36 u37 u38 u39 u40 u41 u42 u43 u44 u45 u46 u47 u48 u49 u50 u51 u52 u53 u54 u55 u56 u57 u58 u59 u60 u61 u62 u63 u64 u65 u66 u67 u68 u69 u70 u71 u72 u73 u74 u75 u76 u77 u78 u79 u80 u81 u82 u83 u84 u85 u86 u87 u88 u89 u90 u91 u92 u93 h=>adg hB0 hg hok h0 _ h _ _ _ _ _ _ _ _ _ _ _ _ _ _ _ _ _ _ _ _ _ _ _ _ _ _ _ _ _ _ _ _ _ _ _ _ _ _ _ _ _ _ _ _ _ _ _ _ _ _ _ _ _ _ _ _ _ _ _ _ _ _ _ _ _ _ _ _ _ _ _ _ _ _ _ _ _ _ _ _ _ _ _ _ _ _ _ _ _ _ _
  have hend1:∀ (x:Nat),x < k.rdg.length→∀ (L:List dF) (rv':Value) (w':World) (u1 u2 u5 u6 u7 u8 u9 u10 u11 u12 u13 u14 u15 u16 u17 u18 u19 u20 u21 u22 u23 u24 u25 u26 u27 u28 u29 u30 u31 u32 u33 u34 u35 u36 u37 u38 u39 u40 u41 u42 u43 u44 u45 u46 u47 u48 u49 u50 u51 u52 u53 u54 u55 u56 u57 u58 u59 u60 u61 u62 u63 u64 u65 u66 u67 u68 u69 u70 u71 u72 u73 u74 u75 u76 u77 u78 u79 u80 u81 u82 u83 u84 u85 u86 u87 u88 u89 u90 u91 u92 u93:Value),St w [] V0 (.row vv 29 4 k.n (fD k.ves) :: .row rv' 59 4 (k.rdg.length+1) (fH k.rdg ++ fH [k.rdg.getD x default]) :: .blk b4 25 [vv,rv'] :: L) w' →
    fA Tryd.prog [.inRegion adn [0,1],.code .ret] (Y6 94 w) [.code E18] ⟨#[.slice la l.length lcap,u1,u2,.pointer (some ⟨bh,0,none⟩),.pointer (some ⟨b4,0,none⟩),u5,u6,u7,u8,u9,u10,u11,u12,u13,u14,u15,u16,u17,u18,u19,u20,u21,u22,u23,u24,u25,u26,u27,u28,u29,u30,u31,u32,u33,u34,u35,u36,u37,u38,u39,u40,u41,u42,u43,u44,u45,u46,u47,u48,u49,u50,u51,u52,u53,u54,u55,u56,u57,u58,u59,u60,u61,u62,u63,u64,u65,u66,u67,u68,u69,u70,u71,u72,u73,u74,u75,u76,u77,u78,u79,u80,u81,u82,u83,u84,u85,u86,u87,u88,u89,u90,u91,u92,u93],[]⟩ w':=fun x hx L rv' w' u1 u2 u5 u6 u7 u8 u9 u10 u11 u12 u13 u14 u15 u16 u17 u18 u19 u20 u21 u22 u23 u24 u25 u26 u27 u28 u29 u30 u31 u32 u33 u34 u35 u36 u37 u38 u39 u40 u41 u42 u43 u44 u45 u46 u47 u48 u49 u50 u51 u52 u53 u54 u55 u56 u57 u58 u59 u60 u61 u62 u63 u64 u65 u66 u67 u68 u69 u70 u71 u72 u73 u74 u75 u76 u77 u78 u79 u80 u81 u82 u83 u84 u85 u86 u87 u88 u89 u90 u91 u92 u93 h=>by
   obtain ⟨h1,h2⟩:=hpl x hx
   refine adg (k:=k.plus (k.rdg.getD x default)) (vv:=vv) (rv:=rv') (L:=L) hB0 hg h1 h2 _ ?_ _ _ _ _ _ _ _ _ _ _ _ _ _ _ _ _ _ _ _ _ _ _ _ _ _ _ _ _ _ _ _ _ _ _ _ _ _ _ _ _ _ _ _ _ _ _ _ _ _ _ _ _ _ _ _ _ _ _ _ _ _ _ _ _ _ _ _ _ _ _ _ _ _ _ _ _ _ _ _ _ _ _ _ _ _ _ _ _ _ _ _
   have e1:(k.plus (k.rdg.getD x default)).rdg.length=k.rdg.length+1:=by show (k.rdg ++ [_]).length=_;simp
   have e2:fH (k.plus (k.rdg.getD x default)).rdg=fH k.rdg ++ fH [k.rdg.getD x default]:=by show fH (k.rdg ++ [_])=_;simp [fH]
   rw [e1,e2]
   exact h
  have hperm2:∀ (x:Nat) (v:Value) (w':World),St w [] V0 [.row v 59 4 (k.rdg.length+1) (fH k.rdg ++ fH [k.rdg.getD x default]),.blk b4 25 [vv,v],.row vv 29 4 k.n (fD k.ves)] w'→St w [] V0 [.row vv 29 4 k.n (fD k.ves),.row v 59 4 (k.rdg.length+1) (fH k.rdg ++ fH [k.rdg.getD x default]),.blk b4 25 [vv,v]] w':=fun x v w' h=>h.perm (List.perm_append_comm (l₁:=[_,_]) (l₂:=[_]))
  have hrn:k.rdg.length≤4:=hrl
  have hr0:∀ x,((k.rdg.getD x default).cells).length=4:=fun _=>rfl
  clear hok htr hpl h0 hrl
  generalize k.rdg.length=n at *
  replace hend:=aj hend;replace hend1:=aj hend1;replace hback:=aj hback;replace hp4:=aj hp4;replace hperm2:=aj hperm2;replace hr0:=aj hr0
  rcases Nat.eq_zero_or_pos n with hn | hn
  ·subst hn
   refine au (au (aA ?_))
   go_wp2_with (((with_reducible refine gL ?_);refine gY hS rfl rfl rfl ?_);refine ⟨_,zd,?_⟩;clear hS;(try clear w');refine zF ?_;intro w' hS)
   refine au (aA ?_)
   go_wp2_with (fail)
   refine aA ?_
   go_wp2_with (fail)
   exact hend.out _ _ _ _ _ _ _ _ _ _ _ _ _ _ _ _ _ _ _ _ _ _ _ _ _ _ _ _ _ _ _ _ _ _ _ _ _ _ _ _ _ _ _ _ _ _ _ _ _ _ _ _ _ _ _ _ _ _ _ _ _ _ _ _ _ _ _ _ _ _ _ _ _ _ _ _ _ _ _ _ _ _ _ _ _ _ _ _ _ _ _ _ _ (hback.out _ _ hS)
  ·have hn':(0:Int) < n:=by omega
   refine au (au (aA ?_))
   go_wp2_with (((with_reducible refine gL ?_);refine gY hS rfl rfl rfl ?_);refine ⟨_,zd,?_⟩;clear hS;(try clear w');refine zF ?_;intro w' hS)
   refine au (aA ?_)
   go_wp2_with (go_at_call 72;refine eF hS ⟨1,_,fun hVb hg=>TG (hto _ (by omega) (by omega)) (by decide) (St.view hS) hVb hg,?_⟩;clear hS;(try clear w');intro v c7 s7 w' hp k7 k8 hS;(try simp only [sE] at hS);obtain ⟨x,rfl⟩:=hp)
   refine aA ?_
   cases x
   ·go_wp2_with (fail)
    exact hend.out _ _ _ _ _ _ _ _ _ _ _ _ _ _ _ _ _ _ _ _ _ _ _ _ _ _ _ _ _ _ _ _ _ _ _ _ _ _ _ _ _ _ _ _ _ _ _ _ _ _ _ _ _ _ _ _ _ _ _ _ _ _ _ _ _ _ _ _ _ _ _ _ _ _ _ _ _ _ _ _ _ _ _ _ _ _ _ _ _ _ _ _ _ (hback.out _ _ hS)
   ·go_wp2_with (fail)
    (refine bF (S:=(St w [] V0 [])) [false,false,false,false,false,false,false,false,false,false,false,false,false,false] rfl (by kernel_rfl) ?_;replace hS:=St.eY hS;(repeat' (first | ((with_reducible refine gHd ?_);(first | (refine dw 0 rfl (by kernel_rfl) (by kernel_rfl) (by decide +kernel) (fun _ _ _ _ h=>nomatch h.1) rfl (St.aG hS) ?_;refine ⟨_,zp,?_⟩;refine zH ?_) | (refine dw 2 rfl (by kernel_rfl) (by kernel_rfl) (by decide +kernel) (fun _ _ _ _ h=>nomatch h.1) rfl (St.aG hS) ?_;refine ⟨_,zp,?_⟩;refine zH ?_) | (refine aar 4 rfl (by kernel_rfl) (by kernel_rfl) (by decide +kernel) rfl rfl (fun _ _ _ h=>nomatch h.1) rfl (St.aG hS) ?_;refine zH ?_) | (refine aar 5 rfl (by kernel_rfl) (by kernel_rfl) (by decide +kernel) rfl rfl (fun _ _ _ h=>nomatch h.1) rfl (St.aG hS) ?_;refine zH ?_) | (refine dw 6 rfl (by kernel_rfl) (by kernel_rfl) (by decide +kernel) (fun _ _ _ _ h=>nomatch h.1) rfl (St.aG hS) ?_;refine ⟨_,zp,?_⟩;refine zH ?_) | (refine dw 8 rfl (by kernel_rfl) (by kernel_rfl) (by decide +kernel) (fun _ _ _ _ h=>nomatch h.1) rfl (St.aG hS) ?_;refine ⟨_,zp,?_⟩;refine zH ?_) | (refine dw 12 rfl (by kernel_rfl) (by kernel_rfl) (by decide +kernel) (fun _ _ _ _ h=>nomatch h.1) rfl (St.aG hS) ?_;refine ⟨_,zp,?_⟩;refine zH ?_) | (refine AZ 1 (by decide +kernel) rfl hS rfl rfl rfl ?_;refine ⟨_,zd,?_⟩;clear hS;(try clear w');refine zH ?_;intro w' hS;refine ⟨(St.aG hS),?_⟩) | (refine AZ 3 (by decide +kernel) rfl hS rfl rfl rfl ?_;refine ⟨_,zd,?_⟩;clear hS;(try clear w');refine zH ?_;intro w' hS;refine ⟨(St.aG hS),?_⟩) | (refine oZ 7 (by decide +kernel) rfl rfl ⟨_,_,zo,?_⟩;refine aeu hS (hto _ (by omega) (by omega)) ⟨hn,by omega⟩ fun x c9 s9 w5 hxn hxn' k9 k10 hS5=>?_;clear hS;(try clear w');have hS:=hS5;clear hS5;(try simp only [sE] at hS);have hpart:=hp4.out x hxn;have hr4:=hr0.out x;refine ⟨_,rfl,?_⟩;refine zH ?_;refine ⟨(St.aG hS),?_⟩) | (refine YB 9 (by decide +kernel) rfl hS rfl rfl rfl ?_;refine ⟨_,zd,?_⟩;clear hS;(try clear w');refine zH ?_;intro w' hS;refine ⟨(St.aG hS),?_⟩) | (refine qJ 10 (by decide +kernel) rfl rfl ?_;refine iG (xR (r:=k.rdg.getD x default) hS rfl rfl) ?_;clear hS;(try clear w');rintro v38 w' ⟨b38,rfl,hS⟩;refine zH ?_;refine ⟨(St.aG hS),?_⟩) | (refine qJ 11 (by decide +kernel) rfl rfl ?_;refine iG (aes hS c2 c3 c4 c5 c6 rfl rfl rfl rfl (lF _) (by omega)) ?_;clear hS;(try clear w');intro v39 w' hS;have hv39:=dY hS v39;refine zH ?_;refine ⟨(St.aG hS),?_⟩) | ((refine jl 13 (by decide +kernel) rfl hS rfl  rfl rfl ?_;refine ⟨_,zd,?_⟩);clear hS;(try clear w');refine zH ?_;intro w' hS;(try simp only [sE] at hS);refine ⟨(St.aG hS),?_⟩) | refine nP 1 3 (by decide +kernel) ?_ ?_ | refine V7 1 3 7 (by decide +kernel) ?_ ?_ ?_ | refine nP 1 7 (by decide +kernel) ?_ ?_ | refine nP 1 9 (by decide +kernel) ?_ ?_ | refine nP 1 10 (by decide +kernel) ?_ ?_ | refine nP 3 7 (by decide +kernel) ?_ ?_ | refine wpAnyH_done (by decide +kernel) ?_ _)) | ((with_reducible refine gWo ?_);(first | (refine yK 1 rfl hS rfl  rfl rfl ?_;refine ⟨_,zd,?_⟩;clear hS;(try clear w');refine zH ?_;intro w' hS;refine ⟨(St.aG hS),?_⟩) | (refine yK 3 rfl hS rfl  rfl rfl ?_;refine ⟨_,zd,?_⟩;clear hS;(try clear w');refine zH ?_;intro w' hS;refine ⟨(St.aG hS),?_⟩) | (refine DZ 7 rfl rfl ⟨_,_,zo,?_⟩;refine aeu hS (hto _ (by omega) (by omega)) ⟨hn,by omega⟩ fun x c9 s9 w5 hxn hxn' k9 k10 hS5=>?_;clear hS;(try clear w');have hS:=hS5;clear hS5;(try simp only [sE] at hS);have hpart:=hp4.out x hxn;have hr4:=hr0.out x;refine ⟨_,rfl,?_⟩;refine zH ?_;refine ⟨(St.aG hS),?_⟩) | (refine WI 9 rfl hS rfl  rfl rfl ?_;refine ⟨_,zd,?_⟩;clear hS;(try clear w');refine zH ?_;intro w' hS;refine ⟨(St.aG hS),?_⟩) | (refine pF 10 rfl rfl ?_;refine iG (xR (r:=k.rdg.getD x default) hS rfl rfl) ?_;clear hS;(try clear w');rintro v38 w' ⟨b38,rfl,hS⟩;refine zH ?_;refine ⟨(St.aG hS),?_⟩))))))
    all_goals (
     go_wp2_with (fail)
     exact hend1.out x hxn [] v39 _ _ _ _ _ _ _ _ _ _ _ _ _ _ _ _ _ _ _ _ _ _ _ _ _ _ _ _ _ _ _ _ _ _ _ _ _ _ _ _ _ _ _ _ _ _ _ _ _ _ _ _ _ _ _ _ _ _ _ _ _ _ _ _ _ _ _ _ _ _ _ _ _ _ _ _ _ _ _ _ _ _ _ _ _ _ _ _ _ _ _ _ (hperm2.out x v39 _ hS.aG))
theorem aeb {lv:Value} {l:List Int} (hB:Bs V) (hg:Go.Wg.gN≤w.heap.size) (hl:VI V lv l) (hV:V.In w) (hh:ay OC w):kL Tryd.prog 18 #[lv] w fun r w'=>r=.returned (.bool true)∧Kp w w' :=
 aaD (d:=93) (r:=2) (N:=94) (ops:=adn) (k0:=[]) (o0:=adn[0]!) (o1:=adn[1]!) Tryd.func18 (show Tryd.f18.body=some B18 from rfl) (m:=93) (by kernel_rfl) (by kernel_rfl) (by kernel_rfl) rfl rfl rfl rfl rfl rfl (fun _ _=>rfl) rfl (by decide) (by decide) (by kernel_rfl)
  hB hV hh fun τ δ=>aei (w:=w.re τ δ) hB hg hl hV
end Go.Proofs.YtjjmefieegcddaaDoor
namespace Go.Proofs.YtjjmefieegcddaaDoor
open Go Go.Tm Go.Conc Go.Sr Go.ChangeShapes Go.WideShapes Go.RowKit Go.Wg Go.Mm
set_option maxRecDepth 100000
theorem adr (os:Os) (s:os.Started) (H:Type) (enc:TypeId × Value→H) :
  ReturnsInLeavingWide {} Tryd.checked os 18 .any (fun w args=>(Rows.weighUselessSpec.pre enc Tryd.prog Tryd.f18 [] false w args∧laidMetH Tryd.prog DT w)∧sizedMet enc Tryd.prog Tryd.f18 (OpenSpec.ofChange Rows.weighUselessSpec) false w args)
  (Rows.weighUselessSpec.post enc Tryd.prog Tryd.f18 false true false false):=by
 refine kE (C:=Tryd.checked) (X:=fun w _=>laidMetH Tryd.prog DT w) (fun _ _ _ hh h=>h.of_heap hh) aaV s Tryd.func18
  (ChangeSpec.witness_at (enc:=enc) (C:=Tryd.checked) (os:=os) (X:=fun w _=>laidMetH Tryd.prog DT w) false (laidWorld os) #[.slice none 0 0] 8 rfl (by kernel_rfl) (by kernel_rfl) (by kernel_rfl) (by kernel_rfl) (by kernel_rfl) (laidWorld_met os _)) ?_
 intro W c args ds gs b m hW _ hL
 have hval:∀ (j:Nat) t v,Tryd.f18.params[j]? = some t→args[j]? = some v→Value.okWide Tryd.prog W .any c t v:=m
 have hW':=hW
 obtain ⟨p,q,hA0,hV0,rfl,_,_⟩:=hW
 have hA:DataW.TrodAll enc Tryd.prog W 0 (fun _=>true) true Tryd.f18.params.toList args.toList ds p:=hA0
 obtain ⟨rfl,rfl⟩:=trodVars_none hV0
 rw [Tryd.params18] at hA hval
 obtain ⟨v0,d0,rfl,rfl,h0⟩:=trodAll_one hA
 obtain ⟨a0,len,cap,rfl⟩:=okWide_slice Tryd.underlying30 (hval 0 30 v0 rfl rfl)
 obtain ⟨l,hl⟩:=P7 h0
 obtain ⟨hB,hg⟩:=NP hL
 obtain ⟨M,last,o,w',t',h1,h2,h3,h4⟩:=good_row (by kernel_rfl) (aeb hB hg hl (Hg W) (uM W))
 refine ⟨M,last,o,w',t',h1,h2,h3,h4.mono fun v hp=>?_⟩
 obtain ⟨rfl,hk⟩:=hp
 refine Ym (by kernel_rfl) (fun t ht=>?_) rfl hW' hk rfl
 rw [Tryd.params18] at ht
 obtain rfl:=List.mem_singleton.1 ht
 exact ⟨by kernel_rfl,of_decide_eq_true (by kernel_rfl)⟩
theorem adx:joinedFacts Tryd.pinned.checked.prog 18 Tryd.f18 Rows.weighUselessSpec Rows.weighUselessRow=true:=by
 unfold joinedFacts
 repeat' (with_reducible apply Si)
 all_goals as_aux_lemma=>kernel_rfl
theorem adk:Tryd.pinned.checked.prog.funcNamed Rows.weighUselessRow.func=some 18:=by kernel_rfl
theorem adE:Tryd.f18.isInstance Tryd.pinned.checked.prog Rows.weighUselessRow.origin Rows.weighUselessRow.targs:=of_decide_eq_true (by kernel_rfl)
theorem adL:Tryd.f18.isWrapper Tryd.pinned.checked.prog Rows.weighUselessRow.wrapper Rows.weighUselessRow.mainSum:=by
 unfold Func.isWrapper
 rw [if_neg (by decide +kernel)]
 exact ⟨rfl,rfl⟩
theorem adR:Rows.WeighUselessSaid :=
 OpenClaim.holds_of_wide_leaving 18 Tryd.f18 rfl rfl rfl rfl rfl rfl rfl ⟨rfl,rfl,rfl,rfl,rfl⟩ rfl rfl rfl rfl rfl adk Tryd.func18 adx adE adL
  (fun os s H enc _=>adr os s H enc)
theorem adZ:Rows.weighUselessRow.wfByText (OpenSpec.ofChange Rows.weighUselessSpec)=true:=by kernel_rfl
theorem adG:Tryd.pinned.checked.prog.mainIs=some (true, "978fa20f6f16e7e64022fe03bf5878814e49ad04a4fd46f998d3b4e1790764ec".toList):=by kernel_rfl
theorem useless_holds:Rows.WeighUselessCardSaid :=
 Claim7.xX .later [.handle] true (true, "978fa20f6f16e7e64022fe03bf5878814e49ad04a4fd46f998d3b4e1790764ec") true true
  adR adZ weighUseless_row_tie rfl ⟨rfl,rfl⟩ adG rfl
  (fun f fn hf hfn=>by
   obtain rfl:f=18:=Option.some.inj (adk.symm.trans hf) |>.symm
   obtain rfl:fn=Tryd.f18:=(Option.some.inj (Tryd.func18.symm.trans hfn)).symm
   exact ⟨by kernel_rfl,fun j t ht=>by
    rw [Tryd.params18] at ht
    have h3:t=30:=by
     rcases j with _ | j
     ·simpa using ht.symm
     ·simp at ht
    subst h3
    exact (by kernel_rfl:Tryd.pinned.checked.prog.wantsStandIn 30=false)⟩)
  (by kernel_rfl)
end Go.Proofs.YtjjmefieegcddaaDoor
