/- A part of the proof: W104, W85, W105, W106. -/
import Derived.Test.YtjjmefieegcddaaDoorJ14
set_option linter.unusedVariables false
set_option linter.unusedSimpArgs false
set_option maxHeartbeats 8000000
set_option maxRecDepth 20000
namespace Go.Proofs.YtjjmefieegcddaaDoor
open Go.RowKit Go.Wg Go.Mm Go.Wk
open Go Go.Sr Go.Ph Go.Tm Go.Conc
variable {w w0:World} {V:View}
theorem afA (k:Wk) (σ:Nat->Nat) {q:Nat} (hq:q<k.rdg.length):(k.rdg.take (q+1)).map (aeX σ)=(k.rdg.take q).map (aeX σ) ++ [aeX σ (k.rdg.getD q default)]:=by
 rw[List.take_add_one,List.getElem?_eq_getElem hq,List.map_append]
 simp[List.getD_eq_getElem?_getD,List.getElem?_eq_getElem hq]
set_option maxRecDepth 40000 in
theorem afh {k:Wk} {G:List Nat} {vv rv xa lv u3:Value} {b4 b8 b37 bh:Nat} {hv:Value} {c s:Int} (hB:Bs V) (hg:Go.Wg.gN<=w0.heap.size) (hk:iJ V vv rv k) (hok:k.Ok) (hr4:V.Range b4 0 [vv,rv]) (hG:Ord k G) (hn:G.length=k.n) (hxa:xa.oneCell'=true) (w:World) (hS:St w0 [] V [.row xa 29 4 G.length (fD (aeO k G)),.blk b8 25 [xa,.slice none 0 0],.blk b37 3 (aV (aeL k G)),.blk bh 90 (jv hv c s)] w) (u1 u7 u9 u10 u11 u12 u13 u14 u15 u16 u17 u18 u19 u20 u21 u22 u23 u24 u25 u26 u27 u28 u29 u30 u31 u32 u33 u34 u35 u36 u37 u38 u39 u40 u41 u42 u43 u44 u45 u46 u47 u48 u49 u50 u51 u52 u53 u54 u55 u56 u57 u58 u59 u60 u61 u62 u63 u64 u65 u66 u67 u68 u69 u70 u71 u72 u73 u74 u75 u76 u77 u78 u79 u80 u81 u82 u83 u84 u85 u86 u87 u88 u89 u90 u91 u92 u93 u94 u95 u96 u97 u98 u99 u100 u101 u102 u103 u104 u105 u106 u107 u108 u109 u110 u111 u112 u113 u114 u115 u116 u117 u118 u119 u120 u121 u122 u123 u124 u125 u126 u127 u128 u129 u130 u131 u132 u133 u134 u135 u136 u137 u138 u139 u140 u141 u142 u143 u144 u145 u146 u147 u148 u149 u150 u151 u152 u153 u154 u155 u156 u157 u158 u159 u160 u161 u162 u163 u164 u165 u166 u167 u168 u169 u170 u171 u172 u173 u174 u175 u176 u177 u178 u179 u180 u181 u182 u183 u184 u185 u186 u187 u188 u189 u190 u191 u192 u193 u194 u195 u196 u197 u198 u199 u200 u201 u202 u203 u204 u205 u206 u207 u208 u209 u210 u211 u212 u213 u214 u215 u216 u217 u218 u219 u220 u221:Value) :
  RB 13 (fun r w'=>r=.returned (.bool true)/\Kp w0 w') [.code afo] ⟨#[lv,u1,.bool false,u3,.pointer (some ⟨b4,0,none⟩),.int .i64 (k.n:Int),.slice (some ⟨b37,0,none⟩) k.n k.n,u7,.pointer (some ⟨b8,0,none⟩),u9,u10,u11,u12,u13,u14,u15,u16,u17,u18,u19,u20,u21,u22,u23,u24,u25,u26,u27,u28,u29,u30,u31,u32,u33,u34,u35,u36,u37,u38,u39,u40,u41,u42,u43,u44,u45,u46,u47,u48,u49,u50,u51,u52,u53,u54,u55,u56,u57,u58,u59,u60,u61,u62,u63,u64,u65,u66,u67,u68,u69,u70,u71,u72,u73,u74,u75,u76,u77,u78,u79,u80,u81,u82,u83,u84,u85,u86,u87,u88,u89,u90,u91,u92,u93,u94,u95,u96,u97,u98,u99,u100,u101,u102,u103,u104,u105,u106,u107,u108,u109,u110,u111,u112,u113,u114,u115,u116,u117,u118,u119,u120,u121,u122,u123,u124,u125,u126,u127,u128,u129,u130,u131,u132,u133,u134,u135,u136,u137,u138,u139,u140,u141,u142,u143,u144,u145,u146,u147,u148,u149,u150,u151,u152,u153,u154,u155,u156,u157,u158,u159,u160,u161,u162,u163,u164,u165,u166,u167,u168,u169,u170,u171,u172,u173,u174,u175,u176,u177,u178,u179,u180,u181,u182,u183,u184,u185,u186,u187,u188,u189,u190,u191,u192,u193,u194,u195,u196,u197,u198,u199,u200,u201,u202,u203,u204,u205,u206,u207,u208,u209,u210,u211,u212,u213,u214,u215,u216,u217,u218,u219,u220,u221],[]⟩ w:=by
 have hren:=hG.afN hn
 have hok':=hren.ok hok
 have hr6:=hok.rdl
 have hr4':([vv,rv]).length=2:=rfl
 have hlN:(aV (aeL k G)).length=k.n:=by rw[iD,aeR]
 have hcN:∀ j,j<k.n->(aV (aeL k G))[j]? = some (.int .i64 ((pos G j:Nat):Int)):=fun j hj=>by
  rw[nI rfl (by rw[aeR];exact hj),afj G hj,if_pos (hG.all hn hj)]
 have hm:=fun r hr=>yF hok r hr
 obtain⟨ra,rcap,hrv,hrc,hrm,hre⟩:=hk.rdg.is
 have htail:∀ (V':View) (_:∀ j o,V j=some o->V' j=some o) (xa' ru:Value) (_:iJ V' xa' ru (k.ord G)) (_:V'.Range b8 0 [xa',ru]) (_:∀ v,v<k.n->V'.Cell b37 v (.int .i64 ((pos G v:Nat):Int))) (w:World) (_:St w0 [] V' [] w) (u1 u7 u9 u10 u11 u12 u13 u14 u15 u16 u17 u18 u19 u20 u21 u22 u23 u24 u25 u26 u27 u28 u29 u30 u31 u32 u33 u34 u35 u36 u37 u38 u39 u40 u41 u42 u43 u44 u45 u46 u47 u48 u49 u50 u51 u52 u53 u54 u55 u56 u57 u58 u59 u60 u61 u62 u63 u64 u65 u66 u67 u68 u69 u70 u71 u72 u73 u74 u75 u76 u77 u78 u79 u80 u81 u82 u83 u84 u85 u86 u87 u88 u89 u90 u91 u92 u93 u94 u95 u96 u97 u98 u99 u100 u101 u102 u103 u104 u105 u106 u107 u108 u109 u110 u111 u112 u113 u114 u115 u116 u117 u118 u119 u120 u121 u122 u123 u124 u125 u126 u127 u128 u129 u130 u131 u132 u133 u134 u135 u136 u137 u138 u139 u140 u141 u142 u143 u144 u145 u146 u147 u148 u149 u150 u151 u152 u153 u154 u155 u156 u157 u158 u159 u160 u161 u162 u163 u164 u165 u166 u167 u168 u169 u170 u171 u172 u173 u174 u175 u176 u177 u178 u179 u180 u181 u182 u183 u184 u185 u186 u187 u188 u189 u190 u191 u192 u193 u194 u195 u196 u197 u198 u199 u200 u201 u202 u203 u204 u205 u206 u207 u208 u209 u210 u211 u212 u213 u214 u215 u216 u217 u218 u219 u220 u221:Value),
   RB 13 (fun r w'=>r=.returned (.bool true)/\Kp w0 w') [.code afC] ⟨#[lv,u1,.bool false,u3,.pointer (some ⟨b4,0,none⟩),.int .i64 (k.n:Int),.slice (some ⟨b37,0,none⟩) k.n k.n,u7,.pointer (some ⟨b8,0,none⟩),u9,u10,u11,u12,u13,u14,u15,u16,u17,u18,u19,u20,u21,u22,u23,u24,u25,u26,u27,u28,u29,u30,u31,u32,u33,u34,u35,u36,u37,u38,u39,u40,u41,u42,u43,u44,u45,u46,u47,u48,u49,u50,u51,u52,u53,u54,u55,u56,u57,u58,u59,u60,u61,u62,u63,u64,u65,u66,u67,u68,u69,u70,u71,u72,u73,u74,u75,u76,u77,u78,u79,u80,u81,u82,u83,u84,u85,u86,u87,u88,u89,u90,u91,u92,u93,u94,u95,u96,u97,u98,u99,u100,u101,u102,u103,u104,u105,u106,u107,u108,u109,u110,u111,u112,u113,u114,u115,u116,u117,u118,u119,u120,u121,u122,u123,u124,u125,u126,u127,u128,u129,u130,u131,u132,u133,u134,u135,u136,u137,u138,u139,u140,u141,u142,u143,u144,u145,u146,u147,u148,u149,u150,u151,u152,u153,u154,u155,u156,u157,u158,u159,u160,u161,u162,u163,u164,u165,u166,u167,u168,u169,u170,u171,u172,u173,u174,u175,u176,u177,u178,u179,u180,u181,u182,u183,u184,u185,u186,u187,u188,u189,u190,u191,u192,u193,u194,u195,u196,u197,u198,u199,u200,u201,u202,u203,u204,u205,u206,u207,u208,u209,u210,u211,u212,u213,u214,u215,u216,u217,u218,u219,u220,u221],[]⟩ w :=
  fun V' hV' xa' ru hx hr8 hnum w hS u1 u7 u9 u10 u11 u12 u13 u14 u15 u16 u17 u18 u19 u20 u21 u22 u23 u24 u25 u26 u27 u28 u29 u30 u31 u32 u33 u34 u35 u36 u37 u38 u39 u40 u41 u42 u43 u44 u45 u46 u47 u48 u49 u50 u51 u52 u53 u54 u55 u56 u57 u58 u59 u60 u61 u62 u63 u64 u65 u66 u67 u68 u69 u70 u71 u72 u73 u74 u75 u76 u77 u78 u79 u80 u81 u82 u83 u84 u85 u86 u87 u88 u89 u90 u91 u92 u93 u94 u95 u96 u97 u98 u99 u100 u101 u102 u103 u104 u105 u106 u107 u108 u109 u110 u111 u112 u113 u114 u115 u116 u117 u118 u119 u120 u121 u122 u123 u124 u125 u126 u127 u128 u129 u130 u131 u132 u133 u134 u135 u136 u137 u138 u139 u140 u141 u142 u143 u144 u145 u146 u147 u148 u149 u150 u151 u152 u153 u154 u155 u156 u157 u158 u159 u160 u161 u162 u163 u164 u165 u166 u167 u168 u169 u170 u171 u172 u173 u174 u175 u176 u177 u178 u179 u180 u181 u182 u183 u184 u185 u186 u187 u188 u189 u190 u191 u192 u193 u194 u195 u196 u197 u198 u199 u200 u201 u202 u203 u204 u205 u206 u207 u208 u209 u210 u211 u212 u213 u214 u215 u216 u217 u218 u219 u220 u221=>ae5 (hB.mono hV') (jf hk hV') hok (hr4.mono hV') hx hr8 hren hnum w hS _ _ _ _ _ _ _ _ _ _ _ _ _ _ _ _ _ _ _ _ _ _ _ _ _ _ _ _ _ _ _ _ _ _ _ _ _ _ _ _ _ _ _ _ _ _ _ _ _ _ _ _ _ _ _ _ _ _ _ _ _ _ _ _ _ _ _ _ _ _ _ _ _ _ _ _ _ _ _ _ _ _ _ _ _ _ _ _ _ _ _ _ _ _ _ _ _ _ _ _ _ _ _ _ _ _ _ _ _ _ _ _ _ _ _ _ _ _ _ _ _ _ _ _ _ _ _ _ _ _ _ _ _ _ _ _ _ _ _ _ _ _ _ _ _ _ _ _ _ _ _ _ _ _ _ _ _ _ _ _ _ _ _ _ _ _ _ _ _ _ _ _ _ _ _ _ _ _ _ _ _ _ _ _ _ _ _ _ _ _ _ _ _ _ _ _ _ _ _ _ _ _ _ _ _ _ _ _ _ _ _ _ _ _ _
 subst hrv
 have hc4:V.Cell b4 1 (.slice ra k.rdg.length rcap):=hr4 1 _ rfl
 clear hk
 replace htail:=aj htail;replace hcN:=aj hcN
 have hwv:=fun(ru:Value) (L:List dF) (w:World) (h:St w0 [] V (.row xa 29 4 (k.ord G).n (fD (k.ord G).ves)::.row ru 59 4 (k.ord G).rdg.length (fH (k.ord G).rdg)::L) w)=>Eh (k:=k.ord G) h hg hB ⟨hok'.pos,by have:=hok'.le;omega,by have:=hok'.rdl;omega⟩
 have hN:(k.ord G).n=G.length:=by rw[hren.n,hn]
 rw[hN]at hwv
 replace hwv:=aj hwv
 refine abr (tgt:=[.code afC]) (by kernel_rfl) rfl hS ?_
 clear hS;intro w' hS
 replace hS:=hS.nilRow 59 4
 refine au (aA ?_)
 go_wp2_with (fail)
 go_loopw [14] (fun iv wr=>∃ (q:Nat) (ru:Value),iv=.int .i64 (q:Int)/\q<=k.rdg.length /\
  St w0 [] V [.row ru 59 4 ((k.rdg.take q).map (aeX (pos G))).length (fH ((k.rdg.take q).map (aeX (pos G)))),.row xa 29 4 G.length (fD (aeO k G)),.blk b8 25 [xa,ru],.blk b37 3 (aV (aeL k G))] wr) (fun iv _=>k.rdg.length-(intOf iv).toNat)
 case atStart=>exact⟨0,.slice none 0 0,rfl,by omega,(hS.aG:St w0 [] V [.row (.slice none 0 0) 59 4 0 [],.row xa 29 4 G.length (fD (aeO k G)),.blk b8 25 [xa,.slice none 0 0],.blk b37 3 (aV (aeL k G))] _)⟩
 case round =>
  clear hS
  obtain⟨q,ru,rfl,hq,hS⟩:=hrel
  by_cases hlt:q<k.rdg.length
  ·have h0:(0:Int)<=q:=by omega
   have h1:(q:Int)<k.rdg.length:=by omega
   obtain⟨rg,rx,rfl,hrr⟩:=hre (by omega)
   have hcell:=hrr q hlt
   have hcl:(k.rdg.getD q default).cells.length=4:=rfl
   have hmr:=hm (k.rdg.getD q default) (by
    rw[List.getD_eq_getElem?_getD,List.getElem?_eq_getElem hlt]
    exact List.getElem_mem hlt)
   have hsu:=afA k (pos G) hlt
   have hrB:aeX (pos G) (k.rdg.getD q default)=⟨((pos G (k.rdg.getD q default).vessel.toNat:Nat):Int),(k.rdg.getD q default).scale,(k.rdg.getD q default).shown,(k.rdg.getD q default).err⟩:=rfl
   rw[hrB]at hsu
   have hll:((k.rdg.take q).map (aeX (pos G))).length<=q:=by rw[List.length_map,List.length_take];omega
   unfold je.cells at hcell
   generalize (k.rdg.take q).map (aeX (pos G))=O at hS hsu hll
   have hol:(fH O).length=O.length * 4:=by rw[fH,jK _ (fun _=>rfl)]
   clear hrB hrr hre hm
   generalize (k.rdg.getD q default).vessel=f at hcell hsu hmr
   generalize (k.rdg.getD q default).scale=sc at hcell hsu
   generalize (k.rdg.getD q default).shown=sh at hcell hsu
   generalize (k.rdg.getD q default).err=er at hcell hsu
   obtain⟨hm0,hm1⟩:=hmr
   obtain⟨fn,rfl⟩:∃ fn:Nat,f=(fn:Int):=⟨f.toNat,by omega⟩
   have hcf:=hcN.out fn (by omega)
   rw[Int.toNat_natCast]at hsu
   generalize ((pos G fn:Nat):Int)=y at hcf hsu
   replace hsu:=aj hsu
   go_wp2_with (first|(first|((first|((with_reducible refine gL ?_);first|refine gY hS rfl rfl rfl ?_|refine lW hS rfl rfl rfl ?_|refine nC hS rfl rfl rfl ?_|refine zQ hS rfl rfl rfl ?_)|((with_reducible refine gS ?_);first|refine pX hS rfl rfl rfl ?_|refine bQ hS rfl rfl rfl ?_));refine⟨_,zd,?_⟩;clear hS;(try clear w');refine zF ?_;intro w' hS;(try simp only[sE]at hS))|(((with_reducible refine gA ?_);refine dM hS rfl rfl ?_);clear hS;(try clear w');intro _;refine zF ?_;intro w' hS))|((with_reducible refine uP ?_);refine zU hS rfl (oP (a:=⟨_,_,_,_⟩) rfl rfl) ?_;clear hS;(try clear w');intro _ a' hp;(try simp only[fr]at hp);subst hp;intro w' hS)|((with_reducible refine Q5 ?_);refine Ui rfl rfl ?_;refine⟨_,_,_,_,by exact rfl,by exact rfl,?_⟩;refine eH hS zd ?_;clear hS;(try clear w');intro va w' hS;refine zF ?_;(try simp only[sE]at hS);have hva:=dY hS va))
   go_roundw
   case rel =>
    rw[Np]at hS
    refine⟨q+1,va,by go_num,by omega,?_⟩
    rw[hsu.out,List.length_append]
    exact hS.aG
   case measure=>simp only[intOf];omega
  ·obtain rfl:q=k.rdg.length:=by omega
   go_wp2_with (((with_reducible refine gL ?_);refine nC hS rfl rfl rfl ?_);refine⟨_,zd,?_⟩;clear hS;(try clear w');refine zF ?_;intro w' hS)
   rw[List.take_length]at hS
   have hru:=dY hS ru
   have hL:((k.rdg.map (aeX (pos G))).length:Nat)=(k.ord G).rdg.length:=rfl
   have hS1:=hS.perm (List.Perm.swap _ _ _)
   obtain⟨V1,hV1,hS2,hx⟩:=hwv.out ru _ _ hS1
   obtain⟨V2,hV2,hc8,hS3⟩:=pin hS2
   obtain⟨V3,hV3,hc37,hS4⟩:=pin hS3
   clear hS hS1 hS2 hS3
   have hS:=hS4
   clear hS4
   refine bG (tgt:=[.code afC]) ?_
   exact htail.out V3 (fun j o h=>hV3 j o (hV2 j o (hV1 j o h))) xa ru (jf (jf hx hV2) hV3) (fun j v hj=>by rw[Nat.zero_add];exact(hc8 j v hj).mono hV3) (fun v hv=>hc37 v _ (hcN.out v hv)) _ hS _ _ _ _ _ _ _ _ _ _ _ _ _ _ _ _ _ _ _ _ _ _ _ _ _ _ _ _ _ _ _ _ _ _ _ _ _ _ _ _ _ _ _ _ _ _ _ _ _ _ _ _ _ _ _ _ _ _ _ _ _ _ _ _ _ _ _ _ _ _ _ _ _ _ _ _ _ _ _ _ _ _ _ _ _ _ _ _ _ _ _ _ _ _ _ _ _ _ _ _ _ _ _ _ _ _ _ _ _ _ _ _ _ _ _ _ _ _ _ _ _ _ _ _ _ _ _ _ _ _ _ _ _ _ _ _ _ _ _ _ _ _ _ _ _ _ _ _ _ _ _ _ _ _ _ _ _ _ _ _ _ _ _ _ _ _ _ _ _ _ _ _ _ _ _ _ _ _ _ _ _ _ _ _ _ _ _ _ _ _ _ _ _ _ _ _ _ _ _ _ _ _ _ _ _ _ _ _ _ _ _ _ _ _ _
end Go.Proofs.YtjjmefieegcddaaDoor
namespace Go.Proofs.YtjjmefieegcddaaDoor
open Go.RowKit Go.Wg Go.Mm Go.Wk
open Go Go.Sr Go.Ph Go.Tm Go.Conc
variable {w:World} {V:View}
theorem IU {V V':View} {v:Value} {l:List Int} (h:VI V v l) (hV:∀ j o,V j=some o->V' j=some o):VI V' v l:=pW.mono h hV
end Go.Proofs.YtjjmefieegcddaaDoor
namespace Go.Proofs.YtjjmefieegcddaaDoor
open Go.RowKit Go.Wg Go.Mm Go.Wk
open Go Go.Sr Go.Ph Go.Tm Go.Conc
variable {w w0:World} {V:View}
noncomputable def afT:Code:=match afZ with | .seq _ (.seq (.block _ (.loop b)) _)=>b|_=>.skip
noncomputable def aeT:List Item:=[.code afT,.inLoop afT,.inBlock 2,.code afo]
theorem afx {k:Wk} {G:List Nat} {i:Nat}:aeQ k G i=(decide (i ∉ G) && (decide ((k.v i).from_<0) || decide ((k.v i).from_.toNat∈G))):=rfl
theorem xB.mono {V V':View} {bh:Nat} {lv:Value} {cn:Int} (h:xB V bh lv cn) (hV:∀ j o,V j=some o->V' j=some o):xB V' bh lv cn:=⟨h.list.imp fun _ hl=>IU hl hV,h.pos,h.small⟩
set_option maxRecDepth 40000 in
theorem ae9 {k:Wk} {vv rv lv hv:Value} {b4 b8 b37 bh:Nat} {c0:Int} (hB:Bs V) (hg:Go.Wg.gN<=w0.heap.size) (hk:iJ V vv rv k) (hok:k.Ok) (hr4:V.Range b4 0 [vv,rv]) (hto:xB V bh hv c0) :
  ∀ (d:Nat) (G:List Nat),Ord k G->G.length+d=k.n->∀ (c s:Int),c0<=c->c+d<=900000->∀ (xa:Value) (w:World) (u1 u7 u9 u10 u11 u12 u13 u14 u15 u16 u17 u18 u19 u20 u21 u22 u23 u24 u25 u26 u27 u28 u29 u30 u31 u32 u33 u34 u35 u36 u37 u38 u39 u40 u41 u42 u43 u44 u45 u46 u47 u48 u49 u50 u51 u52 u53 u54 u55 u56 u57 u58 u59 u60 u61 u62 u63 u64 u65 u66 u67 u68 u69 u70 u71 u72 u73 u74 u75 u76 u77 u78 u79 u80 u81 u82 u83 u84 u85 u86 u87 u88 u89 u90 u91 u92 u93 u94 u95 u96 u97 u98 u99 u100 u101 u102 u103 u104 u105 u106 u107 u108 u109 u110 u111 u112 u113 u114 u115 u116 u117 u118 u119 u120 u121 u122 u123 u124 u125 u126 u127 u128 u129 u130 u131 u132 u133 u134 u135 u136 u137 u138 u139 u140 u141 u142 u143 u144 u145 u146 u147 u148 u149 u150 u151 u152 u153 u154 u155 u156 u157 u158 u159 u160 u161 u162 u163 u164 u165 u166 u167 u168 u169 u170 u171 u172 u173 u174 u175 u176 u177 u178 u179 u180 u181 u182 u183 u184 u185 u186 u187 u188 u189 u190 u191 u192 u193 u194 u195 u196 u197 u198 u199 u200 u201 u202 u203 u204 u205 u206 u207 u208 u209 u210 u211 u212 u213 u214 u215 u216 u217 u218 u219 u220 u221:Value),St w0 [] V [.row xa 29 4 G.length (fD (aeO k G)),.blk b8 25 [xa,.slice none 0 0],.blk b37 3 (aV (aeL k G)),.blk bh 90 (jv hv c s)] w ->
   RB 13 (fun r w'=>r=.returned (.bool true)/\Kp w0 w') aeT ⟨#[lv,u1,.bool false,.pointer (some ⟨bh,0,none⟩),.pointer (some ⟨b4,0,none⟩),.int .i64 (k.n:Int),.slice (some ⟨b37,0,none⟩) k.n k.n,u7,.pointer (some ⟨b8,0,none⟩),u9,u10,u11,u12,u13,u14,u15,u16,u17,u18,u19,u20,u21,u22,u23,u24,u25,u26,u27,u28,u29,u30,u31,u32,u33,u34,u35,u36,u37,u38,u39,u40,u41,u42,u43,u44,u45,u46,u47,u48,u49,u50,u51,u52,u53,u54,u55,u56,u57,u58,u59,u60,u61,u62,u63,u64,u65,u66,u67,u68,u69,u70,u71,u72,u73,u74,u75,u76,u77,u78,u79,u80,u81,u82,u83,u84,u85,u86,u87,u88,u89,u90,u91,u92,u93,u94,u95,u96,u97,u98,u99,u100,u101,u102,u103,u104,u105,u106,u107,u108,u109,u110,u111,u112,u113,u114,u115,u116,u117,u118,u119,u120,u121,u122,u123,u124,u125,u126,u127,u128,u129,u130,u131,u132,u133,u134,u135,u136,u137,u138,u139,u140,u141,u142,u143,u144,u145,u146,u147,u148,u149,u150,u151,u152,u153,u154,u155,u156,u157,u158,u159,u160,u161,u162,u163,u164,u165,u166,u167,u168,u169,u170,u171,u172,u173,u174,u175,u176,u177,u178,u179,u180,u181,u182,u183,u184,u185,u186,u187,u188,u189,u190,u191,u192,u193,u194,u195,u196,u197,u198,u199,u200,u201,u202,u203,u204,u205,u206,u207,u208,u209,u210,u211,u212,u213,u214,u215,u216,u217,u218,u219,u220,u221],[]⟩ w:=by
 intro d
 induction d with
 |zero =>
  intro G hG hn c s hc hc2 xa w u1 u7 u9 u10 u11 u12 u13 u14 u15 u16 u17 u18 u19 u20 u21 u22 u23 u24 u25 u26 u27 u28 u29 u30 u31 u32 u33 u34 u35 u36 u37 u38 u39 u40 u41 u42 u43 u44 u45 u46 u47 u48 u49 u50 u51 u52 u53 u54 u55 u56 u57 u58 u59 u60 u61 u62 u63 u64 u65 u66 u67 u68 u69 u70 u71 u72 u73 u74 u75 u76 u77 u78 u79 u80 u81 u82 u83 u84 u85 u86 u87 u88 u89 u90 u91 u92 u93 u94 u95 u96 u97 u98 u99 u100 u101 u102 u103 u104 u105 u106 u107 u108 u109 u110 u111 u112 u113 u114 u115 u116 u117 u118 u119 u120 u121 u122 u123 u124 u125 u126 u127 u128 u129 u130 u131 u132 u133 u134 u135 u136 u137 u138 u139 u140 u141 u142 u143 u144 u145 u146 u147 u148 u149 u150 u151 u152 u153 u154 u155 u156 u157 u158 u159 u160 u161 u162 u163 u164 u165 u166 u167 u168 u169 u170 u171 u172 u173 u174 u175 u176 u177 u178 u179 u180 u181 u182 u183 u184 u185 u186 u187 u188 u189 u190 u191 u192 u193 u194 u195 u196 u197 u198 u199 u200 u201 u202 u203 u204 u205 u206 u207 u208 u209 u210 u211 u212 u213 u214 u215 u216 u217 u218 u219 u220 u221 hS
  have hmid:∀ (xa:Value) (_:xa.oneCell'=true) (w:World) (_:St w0 [] V [.row xa 29 4 G.length (fD (aeO k G)),.blk b8 25 [xa,.slice none 0 0],.blk b37 3 (aV (aeL k G)),.blk bh 90 (jv hv c s)] w) (u1 u7 u9 u10 u11 u12 u13 u14 u15 u16 u17 u18 u19 u20 u21 u22 u23 u24 u25 u26 u27 u28 u29 u30 u31 u32 u33 u34 u35 u36 u37 u38 u39 u40 u41 u42 u43 u44 u45 u46 u47 u48 u49 u50 u51 u52 u53 u54 u55 u56 u57 u58 u59 u60 u61 u62 u63 u64 u65 u66 u67 u68 u69 u70 u71 u72 u73 u74 u75 u76 u77 u78 u79 u80 u81 u82 u83 u84 u85 u86 u87 u88 u89 u90 u91 u92 u93 u94 u95 u96 u97 u98 u99 u100 u101 u102 u103 u104 u105 u106 u107 u108 u109 u110 u111 u112 u113 u114 u115 u116 u117 u118 u119 u120 u121 u122 u123 u124 u125 u126 u127 u128 u129 u130 u131 u132 u133 u134 u135 u136 u137 u138 u139 u140 u141 u142 u143 u144 u145 u146 u147 u148 u149 u150 u151 u152 u153 u154 u155 u156 u157 u158 u159 u160 u161 u162 u163 u164 u165 u166 u167 u168 u169 u170 u171 u172 u173 u174 u175 u176 u177 u178 u179 u180 u181 u182 u183 u184 u185 u186 u187 u188 u189 u190 u191 u192 u193 u194 u195 u196 u197 u198 u199 u200 u201 u202 u203 u204 u205 u206 u207 u208 u209 u210 u211 u212 u213 u214 u215 u216 u217 u218 u219 u220 u221:Value),
    RB 13 (fun r w'=>r=.returned (.bool true)/\Kp w0 w') [.code afo] ⟨#[lv,u1,.bool false,.pointer (some ⟨bh,0,none⟩),.pointer (some ⟨b4,0,none⟩),.int .i64 (k.n:Int),.slice (some ⟨b37,0,none⟩) k.n k.n,u7,.pointer (some ⟨b8,0,none⟩),u9,u10,u11,u12,u13,u14,u15,u16,u17,u18,u19,u20,u21,u22,u23,u24,u25,u26,u27,u28,u29,u30,u31,u32,u33,u34,u35,u36,u37,u38,u39,u40,u41,u42,u43,u44,u45,u46,u47,u48,u49,u50,u51,u52,u53,u54,u55,u56,u57,u58,u59,u60,u61,u62,u63,u64,u65,u66,u67,u68,u69,u70,u71,u72,u73,u74,u75,u76,u77,u78,u79,u80,u81,u82,u83,u84,u85,u86,u87,u88,u89,u90,u91,u92,u93,u94,u95,u96,u97,u98,u99,u100,u101,u102,u103,u104,u105,u106,u107,u108,u109,u110,u111,u112,u113,u114,u115,u116,u117,u118,u119,u120,u121,u122,u123,u124,u125,u126,u127,u128,u129,u130,u131,u132,u133,u134,u135,u136,u137,u138,u139,u140,u141,u142,u143,u144,u145,u146,u147,u148,u149,u150,u151,u152,u153,u154,u155,u156,u157,u158,u159,u160,u161,u162,u163,u164,u165,u166,u167,u168,u169,u170,u171,u172,u173,u174,u175,u176,u177,u178,u179,u180,u181,u182,u183,u184,u185,u186,u187,u188,u189,u190,u191,u192,u193,u194,u195,u196,u197,u198,u199,u200,u201,u202,u203,u204,u205,u206,u207,u208,u209,u210,u211,u212,u213,u214,u215,u216,u217,u218,u219,u220,u221],[]⟩ w:=fun xa h1 w hS u1 u7 u9 u10 u11 u12 u13 u14 u15 u16 u17 u18 u19 u20 u21 u22 u23 u24 u25 u26 u27 u28 u29 u30 u31 u32 u33 u34 u35 u36 u37 u38 u39 u40 u41 u42 u43 u44 u45 u46 u47 u48 u49 u50 u51 u52 u53 u54 u55 u56 u57 u58 u59 u60 u61 u62 u63 u64 u65 u66 u67 u68 u69 u70 u71 u72 u73 u74 u75 u76 u77 u78 u79 u80 u81 u82 u83 u84 u85 u86 u87 u88 u89 u90 u91 u92 u93 u94 u95 u96 u97 u98 u99 u100 u101 u102 u103 u104 u105 u106 u107 u108 u109 u110 u111 u112 u113 u114 u115 u116 u117 u118 u119 u120 u121 u122 u123 u124 u125 u126 u127 u128 u129 u130 u131 u132 u133 u134 u135 u136 u137 u138 u139 u140 u141 u142 u143 u144 u145 u146 u147 u148 u149 u150 u151 u152 u153 u154 u155 u156 u157 u158 u159 u160 u161 u162 u163 u164 u165 u166 u167 u168 u169 u170 u171 u172 u173 u174 u175 u176 u177 u178 u179 u180 u181 u182 u183 u184 u185 u186 u187 u188 u189 u190 u191 u192 u193 u194 u195 u196 u197 u198 u199 u200 u201 u202 u203 u204 u205 u206 u207 u208 u209 u210 u211 u212 u213 u214 u215 u216 u217 u218 u219 u220 u221=>afh hB hg hk hok hr4 hG (by omega) h1 w hS _ _ _ _ _ _ _ _ _ _ _ _ _ _ _ _ _ _ _ _ _ _ _ _ _ _ _ _ _ _ _ _ _ _ _ _ _ _ _ _ _ _ _ _ _ _ _ _ _ _ _ _ _ _ _ _ _ _ _ _ _ _ _ _ _ _ _ _ _ _ _ _ _ _ _ _ _ _ _ _ _ _ _ _ _ _ _ _ _ _ _ _ _ _ _ _ _ _ _ _ _ _ _ _ _ _ _ _ _ _ _ _ _ _ _ _ _ _ _ _ _ _ _ _ _ _ _ _ _ _ _ _ _ _ _ _ _ _ _ _ _ _ _ _ _ _ _ _ _ _ _ _ _ _ _ _ _ _ _ _ _ _ _ _ _ _ _ _ _ _ _ _ _ _ _ _ _ _ _ _ _ _ _ _ _ _ _ _ _ _ _ _ _ _ _ _ _ _ _ _ _ _ _ _ _ _ _ _ _ _ _ _ _ _ _
  rw[Nat.add_zero]at hn
  have hxo:=dY hS xa
  obtain⟨a0,cp,hxs⟩:=TV hS
  subst hxs
  have hlt:decide ((G.length:Int)<(k.n:Int))=false:=decide_eq_false (by omega)
  replace hmid:=aj hmid
  refine abr (tgt:=[.code afo]) (by kernel_rfl) rfl hS ?_
  clear hS;intro w' hS
  refine au (au (aA ?_))
  go_wp2_with (((with_reducible refine gL ?_);refine gY hS rfl rfl rfl ?_);refine⟨_,zd,?_⟩;clear hS;(try clear w');refine zF ?_;intro w' hS)
  refine dZ (o:=.tmp 50) (t:=false) (by rfl) ?_
  refine lG (show _=some [Item.code afo]from rfl) ?_
  refine bG (tgt:=[.code afo]) ?_
  exact hmid.out _ hxo _ hS _ _ _ _ _ _ _ _ _ _ _ _ _ _ _ _ _ _ _ _ _ _ _ _ _ _ _ _ _ _ _ _ _ _ _ _ _ _ _ _ _ _ _ _ _ _ _ _ _ _ _ _ _ _ _ _ _ _ _ _ _ _ _ _ _ _ _ _ _ _ _ _ _ _ _ _ _ _ _ _ _ _ _ _ _ _ _ _ _ _ _ _ _ _ _ _ _ _ _ _ _ _ _ _ _ _ _ _ _ _ _ _ _ _ _ _ _ _ _ _ _ _ _ _ _ _ _ _ _ _ _ _ _ _ _ _ _ _ _ _ _ _ _ _ _ _ _ _ _ _ _ _ _ _ _ _ _ _ _ _ _ _ _ _ _ _ _ _ _ _ _ _ _ _ _ _ _ _ _ _ _ _ _ _ _ _ _ _ _ _ _ _ _ _ _ _ _ _ _ _ _ _ _ _ _ _ _ _ _ _ _ _ _ _ _
 | succ d ih =>
  intro G hG hn c s hc hc2 xa w u1 u7 u9 u10 u11 u12 u13 u14 u15 u16 u17 u18 u19 u20 u21 u22 u23 u24 u25 u26 u27 u28 u29 u30 u31 u32 u33 u34 u35 u36 u37 u38 u39 u40 u41 u42 u43 u44 u45 u46 u47 u48 u49 u50 u51 u52 u53 u54 u55 u56 u57 u58 u59 u60 u61 u62 u63 u64 u65 u66 u67 u68 u69 u70 u71 u72 u73 u74 u75 u76 u77 u78 u79 u80 u81 u82 u83 u84 u85 u86 u87 u88 u89 u90 u91 u92 u93 u94 u95 u96 u97 u98 u99 u100 u101 u102 u103 u104 u105 u106 u107 u108 u109 u110 u111 u112 u113 u114 u115 u116 u117 u118 u119 u120 u121 u122 u123 u124 u125 u126 u127 u128 u129 u130 u131 u132 u133 u134 u135 u136 u137 u138 u139 u140 u141 u142 u143 u144 u145 u146 u147 u148 u149 u150 u151 u152 u153 u154 u155 u156 u157 u158 u159 u160 u161 u162 u163 u164 u165 u166 u167 u168 u169 u170 u171 u172 u173 u174 u175 u176 u177 u178 u179 u180 u181 u182 u183 u184 u185 u186 u187 u188 u189 u190 u191 u192 u193 u194 u195 u196 u197 u198 u199 u200 u201 u202 u203 u204 u205 u206 u207 u208 u209 u210 u211 u212 u213 u214 u215 u216 u217 u218 u219 u220 u221 hS
  have hn6:=hok.le
  have hlG:G.length<k.n:=by omega
  have hfree:=Go.Wg.Ord.free (k:=k) (G:=G) hok hlG
  have hxo:=dY hS xa
  obtain⟨a0,cp,hxs⟩:=TV hS
  subst hxs
  have hlt:decide ((G.length:Int)<(k.n:Int))=true:=decide_eq_true (by omega)
  obtain⟨ya,vcap,hvv,hvc,hvm,hve⟩:=hk.ves.is
  subst hvv
  obtain⟨vg,vo,hya,hvr⟩:=hve hok.pos
  subst hya
  have hc4:V.Cell b4 0 (.slice (some ⟨vg,vo,none⟩) k.n vcap):=hr4 0 _ rfl
  have hlN:(aV (aeL k G)).length=k.n:=by rw[iD,aeR]
  have hcN:∀ j,j<k.n->(aV (aeL k G))[j]? = some (.int .i64 ((aeL k G).getD j 0)):=fun j hj=>nI rfl (by rw[aeR];exact hj)
  have hol:(fD (aeO k G)).length=G.length * 4:=by rw[fD,jK _ (fun _=>rfl),afl]
  have hto1:=hto.to hc (by omega)
  have hstep:∀ cc,aeQ k G cc=true->cc<k.n->∀ (c' s':Int),c0<=c'->c'+d<=900000->∀ (xa:Value) (w:World) (u1 u7 u9 u10 u11 u12 u13 u14 u15 u16 u17 u18 u19 u20 u21 u22 u23 u24 u25 u26 u27 u28 u29 u30 u31 u32 u33 u34 u35 u36 u37 u38 u39 u40 u41 u42 u43 u44 u45 u46 u47 u48 u49 u50 u51 u52 u53 u54 u55 u56 u57 u58 u59 u60 u61 u62 u63 u64 u65 u66 u67 u68 u69 u70 u71 u72 u73 u74 u75 u76 u77 u78 u79 u80 u81 u82 u83 u84 u85 u86 u87 u88 u89 u90 u91 u92 u93 u94 u95 u96 u97 u98 u99 u100 u101 u102 u103 u104 u105 u106 u107 u108 u109 u110 u111 u112 u113 u114 u115 u116 u117 u118 u119 u120 u121 u122 u123 u124 u125 u126 u127 u128 u129 u130 u131 u132 u133 u134 u135 u136 u137 u138 u139 u140 u141 u142 u143 u144 u145 u146 u147 u148 u149 u150 u151 u152 u153 u154 u155 u156 u157 u158 u159 u160 u161 u162 u163 u164 u165 u166 u167 u168 u169 u170 u171 u172 u173 u174 u175 u176 u177 u178 u179 u180 u181 u182 u183 u184 u185 u186 u187 u188 u189 u190 u191 u192 u193 u194 u195 u196 u197 u198 u199 u200 u201 u202 u203 u204 u205 u206 u207 u208 u209 u210 u211 u212 u213 u214 u215 u216 u217 u218 u219 u220 u221:Value),St w0 [] V [.row xa 29 4 (G.length+1) (fD (aeO k G ++ [ae7 (pos G) (k.v cc)])),.blk b8 25 [xa,.slice none 0 0],.blk b37 3 (aV ((aeL k G).set cc (G.length:Nat))),.blk bh 90 (jv hv c' s')] w ->
    RB 13 (fun r w'=>r=.returned (.bool true)/\Kp w0 w') aeT ⟨#[lv,u1,.bool false,.pointer (some ⟨bh,0,none⟩),.pointer (some ⟨b4,0,none⟩),.int .i64 (k.n:Int),.slice (some ⟨b37,0,none⟩) k.n k.n,u7,.pointer (some ⟨b8,0,none⟩),u9,u10,u11,u12,u13,u14,u15,u16,u17,u18,u19,u20,u21,u22,u23,u24,u25,u26,u27,u28,u29,u30,u31,u32,u33,u34,u35,u36,u37,u38,u39,u40,u41,u42,u43,u44,u45,u46,u47,u48,u49,u50,u51,u52,u53,u54,u55,u56,u57,u58,u59,u60,u61,u62,u63,u64,u65,u66,u67,u68,u69,u70,u71,u72,u73,u74,u75,u76,u77,u78,u79,u80,u81,u82,u83,u84,u85,u86,u87,u88,u89,u90,u91,u92,u93,u94,u95,u96,u97,u98,u99,u100,u101,u102,u103,u104,u105,u106,u107,u108,u109,u110,u111,u112,u113,u114,u115,u116,u117,u118,u119,u120,u121,u122,u123,u124,u125,u126,u127,u128,u129,u130,u131,u132,u133,u134,u135,u136,u137,u138,u139,u140,u141,u142,u143,u144,u145,u146,u147,u148,u149,u150,u151,u152,u153,u154,u155,u156,u157,u158,u159,u160,u161,u162,u163,u164,u165,u166,u167,u168,u169,u170,u171,u172,u173,u174,u175,u176,u177,u178,u179,u180,u181,u182,u183,u184,u185,u186,u187,u188,u189,u190,u191,u192,u193,u194,u195,u196,u197,u198,u199,u200,u201,u202,u203,u204,u205,u206,u207,u208,u209,u210,u211,u212,u213,u214,u215,u216,u217,u218,u219,u220,u221],[]⟩ w:=fun cc hf hcc c' s' h1 h2 xa w u1 u7 u9 u10 u11 u12 u13 u14 u15 u16 u17 u18 u19 u20 u21 u22 u23 u24 u25 u26 u27 u28 u29 u30 u31 u32 u33 u34 u35 u36 u37 u38 u39 u40 u41 u42 u43 u44 u45 u46 u47 u48 u49 u50 u51 u52 u53 u54 u55 u56 u57 u58 u59 u60 u61 u62 u63 u64 u65 u66 u67 u68 u69 u70 u71 u72 u73 u74 u75 u76 u77 u78 u79 u80 u81 u82 u83 u84 u85 u86 u87 u88 u89 u90 u91 u92 u93 u94 u95 u96 u97 u98 u99 u100 u101 u102 u103 u104 u105 u106 u107 u108 u109 u110 u111 u112 u113 u114 u115 u116 u117 u118 u119 u120 u121 u122 u123 u124 u125 u126 u127 u128 u129 u130 u131 u132 u133 u134 u135 u136 u137 u138 u139 u140 u141 u142 u143 u144 u145 u146 u147 u148 u149 u150 u151 u152 u153 u154 u155 u156 u157 u158 u159 u160 u161 u162 u163 u164 u165 u166 u167 u168 u169 u170 u171 u172 u173 u174 u175 u176 u177 u178 u179 u180 u181 u182 u183 u184 u185 u186 u187 u188 u189 u190 u191 u192 u193 u194 u195 u196 u197 u198 u199 u200 u201 u202 u203 u204 u205 u206 u207 u208 u209 u210 u211 u212 u213 u214 u215 u216 u217 u218 u219 u220 u221 hS=>by
   have e1:=afy hG hf
   have e2:=afv (k:=k) (aeN.1 hf).1
   rw[<- e1,e2]at hS
   exact ih (G ++ [cc]) (hG.step hcc hf) (by rw[List.length_append];simp;omega) c' s' h1 h2 xa w _ _ _ _ _ _ _ _ _ _ _ _ _ _ _ _ _ _ _ _ _ _ _ _ _ _ _ _ _ _ _ _ _ _ _ _ _ _ _ _ _ _ _ _ _ _ _ _ _ _ _ _ _ _ _ _ _ _ _ _ _ _ _ _ _ _ _ _ _ _ _ _ _ _ _ _ _ _ _ _ _ _ _ _ _ _ _ _ _ _ _ _ _ _ _ _ _ _ _ _ _ _ _ _ _ _ _ _ _ _ _ _ _ _ _ _ _ _ _ _ _ _ _ _ _ _ _ _ _ _ _ _ _ _ _ _ _ _ _ _ _ _ _ _ _ _ _ _ _ _ _ _ _ _ _ _ _ _ _ _ _ _ _ _ _ _ _ _ _ _ _ _ _ _ _ _ _ _ _ _ _ _ _ _ _ _ _ _ _ _ _ _ _ _ _ _ _ _ _ _ _ _ _ _ _ _ _ _ _ _ _ _ _ _ _ (by rw[List.length_append];exact hS)
  clear ih
  replace hstep:=aj hstep;replace hcN:=aj hcN
  refine abr (tgt:=aeT) (by kernel_rfl) rfl hS ?_
  clear hS;intro w' hS
  refine aA ?_
  conv=>enter [2];whnf
  go_wp2_with (((with_reducible refine gL ?_);refine gY hS rfl rfl rfl ?_);refine⟨_,zd,?_⟩;clear hS;(try clear w');refine zF ?_;intro w' hS)
  replace hS:=hS.nilRow 3 1
  go_loopw [9,10] (fun fv iv wr=>∃ i:Nat,i<=k.n/\iv=.int .i64 (i:Int)/\fv.oneCell'=true/\St w0 [] V [.row fv 3 1 (aeK k G i).length (aV (aeK k G i)),.row (.slice a0 G.length cp) 29 4 G.length (fD (aeO k G)),.blk b8 25 [.slice a0 G.length cp,.slice none 0 0],.blk b37 3 (aV (aeL k G)),.blk bh 90 (jv hv c s)] wr) (fun _ iv _=>k.n-(intOf iv).toNat)
  case atStart=>exact⟨0,by omega,rfl,rfl,hS⟩
  case round =>
   clear hS
   obtain⟨i,hi,rfl,hone,hS⟩:=hrel
   have h0:(0:Int)<=i:=by omega
   by_cases hil:i<k.n
   ·have hil':(i:Int) < k.n:=by omega
    have hcv:=hvr i hil 0 _ rfl
    simp only[Nat.add_zero]at hcv
    have hfl:=afq k G i
    have hll:=afe k G i
    have hcn:=hcN.out i hil
    have hneg:=afn (k:=k) G hil
    have hfb:=afx (k:=k) (G:=G) (i:=i)
    have hfi:=(hok.ves i hil).2.1
    generalize aeK k G i=O at hS hfl hll
    have hOl:=iD O
    generalize (aeL k G).getD i 0=y at hcn hneg
    generalize hff:(k.v i).from_=f at hcv hfb hfi
    by_cases hy:y<0
    ·have hyd:decide (y < 0)=true:=decide_eq_true hy
     have hiG:i ∉ G:=hneg.1 hy
     rw[decide_eq_true hiG,Bool.true_and]at hfb
     by_cases hf:f<0
     ·have hfd:decide (f < 0)=true:=decide_eq_true hf
      rw[hfd,Bool.true_or]at hfb
      rw[hfb,if_pos rfl]at hfl
      clear hneg hfb hiG
      replace hfl:=aj hfl
      go_wp2_with (first|(((with_reducible refine gL ?_);first|refine gY hS rfl rfl rfl ?_|refine nC hS rfl rfl rfl ?_);refine⟨_,zd,?_⟩;clear hS;(try clear w');refine zF ?_;intro w' hS)|((with_reducible refine uP ?_);refine rE hS rfl rfl ?_;refine⟨_,zq,zd,?_⟩;clear hS;(try clear w');intro _;refine zF ?_;intro w' hS)|((with_reducible refine Q5 ?_);refine Ui rfl rfl ?_;refine⟨_,_,_,_,by exact rfl,by exact rfl,?_⟩;refine eH hS zd ?_;clear hS;(try clear w');intro va w' hS;refine zF ?_;(try simp only[sE]at hS);have hva:=dY hS va))
      go_roundw
      case rel =>
       refine⟨i+1,by omega,by go_num,hva,?_⟩
       rw[hfl.out]
       have ei:aV (O ++ [(i:Int)])=aV O ++ [.int .i64 (i:Int)]:=by simp[aV]
       simp only[ei,List.length_append,List.length_cons,List.length_nil,Nat.zero_add]
       exact hS.aG
      case measure=>simp only[intOf];omega
     ·have hfd:decide (f < 0)=false:=decide_eq_false hf
      obtain⟨fn,rfl⟩:∃ fn:Nat,f=(fn:Int):=⟨f.toNat,by omega⟩
      rw[hfd,Bool.false_or,Int.toNat_natCast]at hfb
      have hfk:fn<k.n:=by omega
      have hfk':(fn:Int)<k.n:=by omega
      have hf0:(0:Int)<=fn:=by omega
      have hcf:=hcN.out fn hfk
      have hng:=afn (k:=k) G hfk
      generalize (aeL k G).getD fn 0=z at hcf hng
      by_cases hz:0<=z
      ·have hzd:decide (0<=z)=true:=decide_eq_true hz
       have hmG:fn∈G:=Decidable.byContradiction fun h=>absurd (hng.2 h) (by omega)
       rw[decide_eq_true hmG]at hfb
       rw[hfb,if_pos rfl]at hfl
       clear hneg hfb hiG hng hmG
       replace hfl:=aj hfl
       go_wp2_with (first|(((with_reducible refine gL ?_);first|refine gY hS rfl rfl rfl ?_|refine nC hS rfl rfl rfl ?_);refine⟨_,zd,?_⟩;clear hS;(try clear w');refine zF ?_;intro w' hS)|((with_reducible refine uP ?_);refine rE hS rfl rfl ?_;refine⟨_,zq,zd,?_⟩;clear hS;(try clear w');intro _;refine zF ?_;intro w' hS)|((with_reducible refine Q5 ?_);refine Ui rfl rfl ?_;refine⟨_,_,_,_,by exact rfl,by exact rfl,?_⟩;refine eH hS zd ?_;clear hS;(try clear w');intro va w' hS;refine zF ?_;(try simp only[sE]at hS);have hva:=dY hS va))
       go_roundw
       case rel =>
        refine⟨i+1,by omega,by go_num,hva,?_⟩
        rw[hfl.out]
        have ei:aV (O ++ [(i:Int)])=aV O ++ [.int .i64 (i:Int)]:=by simp[aV]
        simp only[ei,List.length_append,List.length_cons,List.length_nil,Nat.zero_add]
        exact hS.aG
       case measure=>simp only[intOf];omega
      ·have hzd:decide (0<=z)=false:=decide_eq_false hz
       have hmG:fn ∉ G:=hng.1 (by omega)
       rw[decide_eq_false hmG]at hfb
       rw[hfb,if_neg (by decide)]at hfl
       clear hneg hfb hiG hng hmG
       replace hfl:=aj hfl
       go_wp2_with (((with_reducible refine gL ?_);first|refine gY hS rfl rfl rfl ?_|refine nC hS rfl rfl rfl ?_);refine⟨_,zd,?_⟩;clear hS;(try clear w');refine zF ?_;intro w' hS)
       go_roundw
       case rel=>exact⟨i+1,by omega,by go_num,hone,by rw[hfl.out];exact hS.aG⟩
       case measure=>simp only[intOf];omega
    ·have hyd:decide (y < 0)=false:=decide_eq_false hy
     have hiG:¬ (i ∉ G):=fun h=>hy (hneg.2 h)
     rw[decide_eq_false hiG,Bool.false_and]at hfb
     rw[hfb,if_neg (by decide)]at hfl
     clear hneg hfb hiG
     replace hfl:=aj hfl
     go_wp2_with (((with_reducible refine gL ?_);first|refine gY hS rfl rfl rfl ?_|refine nC hS rfl rfl rfl ?_);refine⟨_,zd,?_⟩;clear hS;(try clear w');refine zF ?_;intro w' hS)
     go_roundw
     case rel=>exact⟨i+1,by omega,by go_num,hone,by rw[hfl.out];exact hS.aG⟩
     case measure=>simp only[intOf];omega
   ·obtain rfl:i=k.n:=by omega
    obtain⟨V5,hV5,hS5,hfv⟩:=RP hS
    clear hS
    have hS:=hS5
    clear hS5
    obtain⟨fa,fcap,hfvs,hfc,hfm,hfe⟩:=hfv.is
    subst hfvs
    obtain⟨fg,fo,hfa,hfr⟩:=hfe hfree
    subst hfa
    have hfl6:=afe k G k.n
    have hmem:=fun y hy=>afB (k:=k) (G:=G) (m:=k.n) (y:=y) hy
    generalize aeK k G k.n=F at hfree hfc hfr hfl6 hmem hfv |-
    have hc45:=hc4.mono hV5
    have hvr5:∀ x,x<k.n->V5.Range vg (vo+x * 4) (k.v x).cells:=fun x hx=>(hvr x hx).mono hV5
    have hto5:=hto1.mono hV5
    have hF1:(0:Int)<=(F.length:Int)-1:=by omega
    clear hfv hfe hvr hc4
    replace hmem:=aj hmem;replace hfr:=aj hfr;replace hvr5:=aj hvr5
    go_wp2_with (fail)
    refine eF hS ⟨1,_,fun hVb hg=>xC hto5 (by omega) (St.view hS) hVb hg,?_⟩
    clear hS;(try clear w');intro v c5 s5 w' hp hc5 hd5 hS
    (try simp only[sE]at hS)
    obtain⟨y,rfl,hy0,hy1⟩:=hp
    obtain⟨x,hyx⟩:∃ x:Nat,y=(x:Int):=⟨y.toNat,by omega⟩
    subst hyx
    have hx1:(x:Int)<F.length:=by omega
    have hx0:(0:Int)<=x:=by omega
    obtain⟨cc,hcc1,hcc2,hcc3⟩:=hmem.out x (by omega)
    have hcf:=hfr.out x (by omega) 0 _ rfl
    simp only[Nat.mul_one,Nat.add_zero]at hcf
    rw[hcc1]at hcf
    have hcc4:(cc:Int)<k.n:=by omega
    have hcc0:(0:Int)<=cc:=by omega
    have hcv:=hvr5.out cc hcc2
    have hcvl:(k.v cc).cells.length=4:=rfl
    have hst:=hstep.out cc hcc3 hcc2
    have hfi:=(hok.ves cc hcc2).2.1
    have hfu:=(aeN.1 hcc3).2
    have hvN:ae7 (pos G) (k.v cc)=⟨if (k.v cc).from_<0 then(k.v cc).from_ else(pos G (k.v cc).from_.toNat:Nat),(k.v cc).room,(k.v cc).lo,(k.v cc).hi⟩:=rfl
    rw[hvN]at hst
    unfold nN.cells at hcv hcvl
    generalize (k.v cc).from_=f at hcv hcvl hst hfi hfu
    generalize (k.v cc).room=ro at hcv hcvl hst
    generalize (k.v cc).lo=lo at hcv hcvl hst
    generalize (k.v cc).hi=hi2 at hcv hcvl hst
    clear hcc1 hcc3 hvN
    by_cases hf:f<0
    ·have hfd:decide (0<=f)=false:=decide_eq_false (by omega)
     rw[if_pos hf]at hst
     clear hfu
     replace hst:=aj hst
     go_wp2_with (first|((first|((first|((with_reducible refine gL ?_);first|refine gY hS rfl rfl rfl ?_|refine lW hS rfl rfl rfl ?_|refine nC hS rfl rfl rfl ?_|refine zQ hS rfl rfl rfl ?_)|((with_reducible refine gS ?_);first|refine pX hS rfl rfl rfl ?_|refine bQ hS rfl rfl rfl ?_));refine⟨_,zd,?_⟩;clear hS;(try clear w');refine zF ?_;intro w' hS;(try simp only[sE]at hS))|(((with_reducible refine gA ?_);refine dM hS rfl rfl ?_);clear hS;(try clear w');intro _;refine zF ?_;intro w' hS));try (simp only[jJ]at hS))|((with_reducible refine uP ?_);refine zU hS rfl (pK (a:=⟨_,_,_,_⟩) rfl rfl) ?_;clear hS;(try clear w');intro _ a' hp;(try simp only[fr]at hp);subst hp;intro w' hS)|((with_reducible refine Q5 ?_);refine Ui rfl rfl ?_;refine⟨_,_,_,_,by exact rfl,by exact rfl,?_⟩;refine eH hS zd ?_;clear hS;(try clear w');intro va w' hS;refine zF ?_;(try simp only[sE]at hS);have hva:=dY hS va))
     rw[uO]at hS
     refine jr (bG (tgt:=aeT) ?_)
     exact hst.out c5 s5 (by omega) (by omega) va _ _ _ _ _ _ _ _ _ _ _ _ _ _ _ _ _ _ _ _ _ _ _ _ _ _ _ _ _ _ _ _ _ _ _ _ _ _ _ _ _ _ _ _ _ _ _ _ _ _ _ _ _ _ _ _ _ _ _ _ _ _ _ _ _ _ _ _ _ _ _ _ _ _ _ _ _ _ _ _ _ _ _ _ _ _ _ _ _ _ _ _ _ _ _ _ _ _ _ _ _ _ _ _ _ _ _ _ _ _ _ _ _ _ _ _ _ _ _ _ _ _ _ _ _ _ _ _ _ _ _ _ _ _ _ _ _ _ _ _ _ _ _ _ _ _ _ _ _ _ _ _ _ _ _ _ _ _ _ _ _ _ _ _ _ _ _ _ _ _ _ _ _ _ _ _ _ _ _ _ _ _ _ _ _ _ _ _ _ _ _ _ _ _ _ _ _ _ _ _ _ _ _ _ _ _ _ _ _ _ _ _ _ _ _ _ (hS.weaken hV5).aG
    ·have hfd:decide (0<=f)=true:=decide_eq_true (by omega)
     rw[if_neg hf]at hst
     obtain⟨fn,rfl⟩:∃ fn:Nat,f=(fn:Int):=⟨f.toNat,by omega⟩
     rw[Int.toNat_natCast]at hst hfu
     have hfk:fn<k.n:=by omega
     have hfk':(fn:Int)<k.n:=by omega
     have hf0:(0:Int)<=fn:=by omega
     have hcf2:=hcN.out fn hfk
     rw[afj G hfk,if_pos (hfu.resolve_left (by omega))]at hcf2
     generalize ((pos G fn:Nat):Int)=z at hcf2 hst
     clear hfu
     replace hst:=aj hst
     go_wp2_with (first|((first|((first|((with_reducible refine gL ?_);first|refine gY hS rfl rfl rfl ?_|refine lW hS rfl rfl rfl ?_|refine nC hS rfl rfl rfl ?_|refine zQ hS rfl rfl rfl ?_)|((with_reducible refine gS ?_);first|refine pX hS rfl rfl rfl ?_|refine bQ hS rfl rfl rfl ?_));refine⟨_,zd,?_⟩;clear hS;(try clear w');refine zF ?_;intro w' hS;(try simp only[sE]at hS))|(((with_reducible refine gA ?_);refine dM hS rfl rfl ?_);clear hS;(try clear w');intro _;refine zF ?_;intro w' hS));try (simp only[jJ]at hS))|((with_reducible refine uP ?_);refine zU hS rfl (pK (a:=⟨_,_,_,_⟩) rfl rfl) ?_;clear hS;(try clear w');intro _ a' hp;(try simp only[fr]at hp);subst hp;intro w' hS)|((with_reducible refine Q5 ?_);refine Ui rfl rfl ?_;refine⟨_,_,_,_,by exact rfl,by exact rfl,?_⟩;refine eH hS zd ?_;clear hS;(try clear w');intro va w' hS;refine zF ?_;(try simp only[sE]at hS);have hva:=dY hS va))
     rw[uO]at hS
     refine jr (bG (tgt:=aeT) ?_)
     exact hst.out c5 s5 (by omega) (by omega) va _ _ _ _ _ _ _ _ _ _ _ _ _ _ _ _ _ _ _ _ _ _ _ _ _ _ _ _ _ _ _ _ _ _ _ _ _ _ _ _ _ _ _ _ _ _ _ _ _ _ _ _ _ _ _ _ _ _ _ _ _ _ _ _ _ _ _ _ _ _ _ _ _ _ _ _ _ _ _ _ _ _ _ _ _ _ _ _ _ _ _ _ _ _ _ _ _ _ _ _ _ _ _ _ _ _ _ _ _ _ _ _ _ _ _ _ _ _ _ _ _ _ _ _ _ _ _ _ _ _ _ _ _ _ _ _ _ _ _ _ _ _ _ _ _ _ _ _ _ _ _ _ _ _ _ _ _ _ _ _ _ _ _ _ _ _ _ _ _ _ _ _ _ _ _ _ _ _ _ _ _ _ _ _ _ _ _ _ _ _ _ _ _ _ _ _ _ _ _ _ _ _ _ _ _ _ _ _ _ _ _ _ _ _ _ _ (hS.weaken hV5).aG
theorem afs {k:Wk} {N:List Int} (hN:N.length=k.n) (h:∀ j,j<k.n->N.getD j 0=-1):N=aeL k []:=by
 refine List.ext_getElem (by rw[hN,aeR]) fun j h1 h2=>?_
 have h3:=h j (by omega)
 rw[List.getD_eq_getElem?_getD,List.getElem?_eq_getElem h1,Option.getD_some]at h3
 rw[h3]
 simp[aeL]
set_option maxRecDepth 40000 in
theorem ae2 {lv:Value} {l:List Int} (hB:Bs V) (hg:Go.Wg.gN<=w.heap.size) (hl:VI V lv l) (hV:V.In w):RB 13 (fun r w'=>r=.returned (.bool true)/\Kp w w') [.code B13] ⟨#[lv] ++ Array.replicate 221 undef,[]⟩ w:=by
 have hS:=St.start w V hV
 obtain⟨la,lcap,hlv,hlc,hlm,hle⟩:=hl.is
 clear hle hlc hlm
 subst hlv
 simp only[Array.replicate_succ,Array.replicate_zero,List.push_toArray,List.append_toArray,List.nil_append,List.cons_append]
 refine abr (tgt:=aeT) (by kernel_rfl) rfl hS ?_
 clear hS;intro w' hS
 refine au (aA ?_)
 go_wp2_with (fail)
 refine au (aA ?_)
 go_wp2_with (go_at_call 23;refine Aj hS ⟨_,_,SY ⟨_,_,_,rfl⟩,?_⟩;clear hS;(try clear w');intro bh w' hS)
 refine au (aA ?_)
 go_wp2_with (first|(first|(((with_reducible refine gS ?_);refine bQ hS rfl rfl rfl ?_);refine⟨_,zd,?_⟩;clear hS;(try clear w');refine zF ?_;intro w' hS;(try simp only[sE]at hS))|((with_reducible refine gA ?_);refine aT 4 rfl hS rfl rfl ?_;clear hS;(try clear w');intro b4;refine zF ?_;intro w' hS))|(go_at_call 33;refine(afr (V:=V) ⟨⟨l,hl⟩,by decide,by decide⟩ (by decide) (by decide) (by decide) (St.view hS) (hS.off _ (List.mem_cons_self ..) bh rfl) (St.dR hS)).mono ?_;rintro _ w1 ⟨k,vv,rv,c1,s1,rfl,hok,hkn,hrl,k1,k2,hS1⟩;obtain⟨V1,hV1,hS2,hk⟩:=Eh (hS.comp (j:=0) rfl (hS1.perm (List.perm_append_comm (l₁:=[_,_]) (l₂:=[_])))) hg hB ⟨hok.pos,by have:=hok.le;omega,by omega⟩;clear hS hS1;(try clear w');have hS:=hS2;clear hS2;have hone2:=qB (wO hk.ves) (wO hk.rdg)))
 obtain⟨V2,hV2,hc1,hS2⟩:=pin hS
 clear hS
 have hS:=hS2
 clear hS2
 have hB2:Bs V2:=(hB.mono hV1).mono hV2
 have hk2:=jf hk hV2
 have hr4:V2.Range b4 0 [vv,rv]:=fun j v hj=>by rw[Nat.zero_add];exact hc1 j v hj
 have hto:xB V2 bh (.slice la l.length lcap) c1:=⟨⟨l,IU (IU hl hV1) hV2⟩,by omega,by omega⟩
 have hn6:=hok.le
 have hfin:∀ (N:List Int) (_:N=aeL k []) (w1:World) (u1 u7 u9 u10 u11 u12 u13 u14 u15 u16 u17 u18 u19 u20 u21 u22 u23 u24 u25 u26 u27 u28 u29 u30 u31 u32 u33 u34 u35 u36 u37 u38 u39 u40 u41 u42 u43 u44 u45 u46 u47 u48 u49 u50 u51 u52 u53 u54 u55 u56 u57 u58 u59 u60 u61 u62 u63 u64 u65 u66 u67 u68 u69 u70 u71 u72 u73 u74 u75 u76 u77 u78 u79 u80 u81 u82 u83 u84 u85 u86 u87 u88 u89 u90 u91 u92 u93 u94 u95 u96 u97 u98 u99 u100 u101 u102 u103 u104 u105 u106 u107 u108 u109 u110 u111 u112 u113 u114 u115 u116 u117 u118 u119 u120 u121 u122 u123 u124 u125 u126 u127 u128 u129 u130 u131 u132 u133 u134 u135 u136 u137 u138 u139 u140 u141 u142 u143 u144 u145 u146 u147 u148 u149 u150 u151 u152 u153 u154 u155 u156 u157 u158 u159 u160 u161 u162 u163 u164 u165 u166 u167 u168 u169 u170 u171 u172 u173 u174 u175 u176 u177 u178 u179 u180 u181 u182 u183 u184 u185 u186 u187 u188 u189 u190 u191 u192 u193 u194 u195 u196 u197 u198 u199 u200 u201 u202 u203 u204 u205 u206 u207 u208 u209 u210 u211 u212 u213 u214 u215 u216 u217 u218 u219 u220 u221:Value) (b8 b37:Nat),St w [] V2 [.row (.slice none 0 0) 29 4 0 [],.blk b8 25 [.slice none 0 0,.slice none 0 0],.blk b37 3 (aV N),.blk bh 90 (jv (.slice la l.length lcap) c1 s1)] w1 ->
   RB 13 (fun r w'=>r=.returned (.bool true)/\Kp w w') aeT ⟨#[.slice la l.length lcap,u1,.bool false,.pointer (some ⟨bh,0,none⟩),.pointer (some ⟨b4,0,none⟩),.int .i64 (k.n:Int),.slice (some ⟨b37,0,none⟩) k.n k.n,u7,.pointer (some ⟨b8,0,none⟩),u9,u10,u11,u12,u13,u14,u15,u16,u17,u18,u19,u20,u21,u22,u23,u24,u25,u26,u27,u28,u29,u30,u31,u32,u33,u34,u35,u36,u37,u38,u39,u40,u41,u42,u43,u44,u45,u46,u47,u48,u49,u50,u51,u52,u53,u54,u55,u56,u57,u58,u59,u60,u61,u62,u63,u64,u65,u66,u67,u68,u69,u70,u71,u72,u73,u74,u75,u76,u77,u78,u79,u80,u81,u82,u83,u84,u85,u86,u87,u88,u89,u90,u91,u92,u93,u94,u95,u96,u97,u98,u99,u100,u101,u102,u103,u104,u105,u106,u107,u108,u109,u110,u111,u112,u113,u114,u115,u116,u117,u118,u119,u120,u121,u122,u123,u124,u125,u126,u127,u128,u129,u130,u131,u132,u133,u134,u135,u136,u137,u138,u139,u140,u141,u142,u143,u144,u145,u146,u147,u148,u149,u150,u151,u152,u153,u154,u155,u156,u157,u158,u159,u160,u161,u162,u163,u164,u165,u166,u167,u168,u169,u170,u171,u172,u173,u174,u175,u176,u177,u178,u179,u180,u181,u182,u183,u184,u185,u186,u187,u188,u189,u190,u191,u192,u193,u194,u195,u196,u197,u198,u199,u200,u201,u202,u203,u204,u205,u206,u207,u208,u209,u210,u211,u212,u213,u214,u215,u216,u217,u218,u219,u220,u221],[]⟩ w1 :=
  fun N hN w1 u1 u7 u9 u10 u11 u12 u13 u14 u15 u16 u17 u18 u19 u20 u21 u22 u23 u24 u25 u26 u27 u28 u29 u30 u31 u32 u33 u34 u35 u36 u37 u38 u39 u40 u41 u42 u43 u44 u45 u46 u47 u48 u49 u50 u51 u52 u53 u54 u55 u56 u57 u58 u59 u60 u61 u62 u63 u64 u65 u66 u67 u68 u69 u70 u71 u72 u73 u74 u75 u76 u77 u78 u79 u80 u81 u82 u83 u84 u85 u86 u87 u88 u89 u90 u91 u92 u93 u94 u95 u96 u97 u98 u99 u100 u101 u102 u103 u104 u105 u106 u107 u108 u109 u110 u111 u112 u113 u114 u115 u116 u117 u118 u119 u120 u121 u122 u123 u124 u125 u126 u127 u128 u129 u130 u131 u132 u133 u134 u135 u136 u137 u138 u139 u140 u141 u142 u143 u144 u145 u146 u147 u148 u149 u150 u151 u152 u153 u154 u155 u156 u157 u158 u159 u160 u161 u162 u163 u164 u165 u166 u167 u168 u169 u170 u171 u172 u173 u174 u175 u176 u177 u178 u179 u180 u181 u182 u183 u184 u185 u186 u187 u188 u189 u190 u191 u192 u193 u194 u195 u196 u197 u198 u199 u200 u201 u202 u203 u204 u205 u206 u207 u208 u209 u210 u211 u212 u213 u214 u215 u216 u217 u218 u219 u220 u221 b8 b37 hS=>ae9 hB2 hg hk2 hok hr4 hto k.n [] (Ord.nil k) (Nat.zero_add _) c1 s1 (Int.le_refl _) (by omega) _ w1 _ _ _ _ _ _ _ _ _ _ _ _ _ _ _ _ _ _ _ _ _ _ _ _ _ _ _ _ _ _ _ _ _ _ _ _ _ _ _ _ _ _ _ _ _ _ _ _ _ _ _ _ _ _ _ _ _ _ _ _ _ _ _ _ _ _ _ _ _ _ _ _ _ _ _ _ _ _ _ _ _ _ _ _ _ _ _ _ _ _ _ _ _ _ _ _ _ _ _ _ _ _ _ _ _ _ _ _ _ _ _ _ _ _ _ _ _ _ _ _ _ _ _ _ _ _ _ _ _ _ _ _ _ _ _ _ _ _ _ _ _ _ _ _ _ _ _ _ _ _ _ _ _ _ _ _ _ _ _ _ _ _ _ _ _ _ _ _ _ _ _ _ _ _ _ _ _ _ _ _ _ _ _ _ _ _ _ _ _ _ _ _ _ _ _ _ _ _ _ _ _ _ _ _ _ _ _ _ _ _ _ _ _ _ _ (by rw[<- hN];exact hS)
 have hk0:=hk2
 obtain⟨ya,vcap,hvv,hvc,hvm,hve⟩:=hk0.ves.is
 subst hvv
 have hc4:V2.Cell b4 0 (.slice ya k.n vcap):=hr4 0 _ rfl
 clear hk hc1 hB hk0 hve
 replace hfin:=aj hfin
 refine au (aA ?_)
 go_wp2_with (((with_reducible refine gL ?_);refine nC hS rfl rfl rfl ?_);refine⟨_,zd,?_⟩;clear hS;(try clear w');refine zF ?_;intro w' hS)
 (try refine⟨rfl,?_⟩)
 refine au (aA ?_)
 go_wp2_with ((with_reducible refine gMk ?_);refine U6 37 rfl hS rfl rfl rfl rfl (by omega) ?_;clear hS;(try clear w');intro b37;refine zF ?_;intro w' hS)
 have hN0:(List.replicate k.n (0:Int)).length=k.n:=List.length_replicate
 (try refine⟨rfl,?_⟩)
 refine au (aA ?_)
 go_wp2_with (fail)
 go_loopw [7] (fun iv wr=>∃ (i:Nat) (N:List Int),i<=k.n/\iv=.int .i64 (i:Int)/\N.length=k.n/\(∀ j,j<i->N.getD j 0=-1)/\St w [] V2 [.blk b37 3 (aV N),.blk bh 90 (jv (.slice la l.length lcap) c1 s1)] wr) (fun iv _=>k.n-(intOf iv).toNat)
 case atStart=>exact⟨0,_,by omega,rfl,hN0,(fun j hj=>absurd hj (by omega)),hS⟩
 case round =>
  clear hS hN0
  obtain⟨i,N,hi,rfl,hNl,hN,hS⟩:=hrel
  have h0:(0:Int)<=i:=by omega
  by_cases hlt:i<k.n
  ·have hlt':(i:Int) < k.n:=by omega
   have hlN:(aV N).length=k.n:=by rw[iD,hNl]
   have hN2:∀ j,j<i+1->(N.set i (-1)).getD j 0=-1:=fun j hj=>by
    rw[fC _ _ _ _ _ (by omega)]
    by_cases e:i=j
    ·rw[if_pos e]
    ·rw[if_neg e];exact hN j (by omega)
   replace hN2:=aj hN2
   clear hN
   go_wp2_with ((((with_reducible refine gS ?_);refine pX hS rfl rfl rfl ?_);refine⟨_,zd,?_⟩;clear hS;(try clear w');refine zF ?_;intro w' hS;(try simp only[sE]at hS));try (simp only[jJ]at hS))
   go_roundw
   case rel=>exact⟨i+1,N.set i (-1),by omega,by go_num,by simp[hNl],hN2.out,hS⟩
   case measure=>simp only[intOf];omega
  ·obtain rfl:i=k.n:=by omega
   have hN2:=afs hNl hN
   clear hN
   replace hN2:=aj hN2
   go_wp2_with (fail)
   (try refine⟨rfl,?_⟩)
   refine au (aA ?_)
   go_wp2_with ((with_reducible refine gA ?_);refine aT 8 rfl hS rfl rfl ?_;clear hS;(try clear w');intro b8;refine zF ?_;intro w' hS)
   (try refine⟨rfl,?_⟩)
   refine au (jg (zh (bG (tgt:=aeT) ?_)))
   replace hS:=hS.nilRow 29 4
   exact hfin.out N hN2.out _ _ _ _ _ _ _ _ _ _ _ _ _ _ _ _ _ _ _ _ _ _ _ _ _ _ _ _ _ _ _ _ _ _ _ _ _ _ _ _ _ _ _ _ _ _ _ _ _ _ _ _ _ _ _ _ _ _ _ _ _ _ _ _ _ _ _ _ _ _ _ _ _ _ _ _ _ _ _ _ _ _ _ _ _ _ _ _ _ _ _ _ _ _ _ _ _ _ _ _ _ _ _ _ _ _ _ _ _ _ _ _ _ _ _ _ _ _ _ _ _ _ _ _ _ _ _ _ _ _ _ _ _ _ _ _ _ _ _ _ _ _ _ _ _ _ _ _ _ _ _ _ _ _ _ _ _ _ _ _ _ _ _ _ _ _ _ _ _ _ _ _ _ _ _ _ _ _ _ _ _ _ _ _ _ _ _ _ _ _ _ _ _ _ _ _ _ _ _ _ _ _ _ _ _ _ _ _ _ _ _ _ _ _ _ _ _ _ hS
theorem afp {lv:Value} {l:List Int} (hB:Bs V) (hg:Go.Wg.gN<=w.heap.size) (hl:VI V lv l) (hV:V.In w) (hh:ay OC w):kL Tryd.prog 13 #[lv] w fun r w'=>r=.returned (.bool true)/\Kp w w' :=
 abY (B:=B13) (m:=221) Tryd.func13 (show Tryd.f13.body=some B13 from rfl) (by kernel_rfl) hh (ae2 hB hg hl hV)
end Go.Proofs.YtjjmefieegcddaaDoor
