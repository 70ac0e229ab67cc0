/- A part of the proof: W74, W75. -/
import Derived.Test.YtjjmefieegcddaaDoorL11
set_option linter.unusedVariables false
set_option linter.unusedSimpArgs false
set_option maxHeartbeats 8000000
set_option maxRecDepth 20000
namespace Go.Proofs.YtjjmefieegcddaaDoor
open Go.RowKit Go.Wg Go.Mm
variable {w:World} {V:View}
theorem MI (x:Int):0<=IntKind.u64.wrap x:=by
 unfold IntKind.wrap
 simp only[IntKind.signed,Bool.false_eq_true,if_false]
 exact Int.emod_nonneg _ (by decide)
theorem BO (x y:Int):0<=bits .xor .u64 x y:=MI _
theorem Xy (bh:Nat) (l:List Int) (lv:Value) (hl:VI V lv l) (cn st:Int) (h0:0<=cn) (hc:cn<=1000000) (hVb:V bh=none) (hV:V.In w) (hg:w.heap[bh]? = some (.cells (Wp lv cn st).toArray 90 (0,0))) :
  Calls Tryd.prog 96 #[ptr bh] w fun e w'=>∃ v,e=.returned v/\(∃ x:Int,v=.int .u64 x/\0<=x)/\Gg bh lv cn 1 w w':=by
 obtain⟨la,lcap,rfl,hlc,hlm,hle⟩:=hl.is
 have hS:=St.xW w V hV hg hVb
 clear hl hg
 unfold ptr
 by_cases hlt:cn<l.length
 ·obtain ⟨lg,lo,rfl,hlr⟩:=hle (by omega)
  obtain⟨c,hcn⟩:∃ c:Nat,cn=(c:Int):=⟨cn.toNat,by omega⟩
  subst hcn
  have hcell:=hlr c (by omega) 0 _ rfl
  simp only[Nat.mul_one,Nat.add_zero]at hcell
  generalize l.getD c 0=y at hcell
  clear hle hlr
  go_enter Tryd.func96,Tryd.ntmps96
  go_wp2_with (((with_reducible refine gL ?_);refine gY hS rfl rfl rfl ?_);refine⟨_,zd,?_⟩;clear hS;(try clear w');refine zF ?_;intro w' hS)
  (refine bF (S:=(St w [bh] V [.blk bh 90 (Wp (.slice (some ⟨lg,lo,none⟩) l.length lcap) (c:Int) st)])) [false,false,false,false,false,false,false,false,false,false] rfl (by kernel_rfl) ?_;replace hS:=St.eY hS;(iterate 10 ((first|refine hxm 0 rfl ?_|refine hxp 1 rfl ?_|refine hxp 2 rfl ?_|refine hxa 3 rfl ?_|refine hxm 4 rfl ?_|refine hxp 5 rfl ?_|refine hxp 6 rfl ?_|refine hxa 7 rfl ?_|refine hxp 8 rfl ?_|refine hxp 9 rfl ?_);refine zH ?_));refine wpAnyH_done (by kernel_rfl) ?_ _)
  go_wp2_with (fail)
  (refine bF (S:=(St w [bh] V [.blk bh 90 (Wp (.slice (some ⟨lg,lo,none⟩) l.length lcap) (c:Int) st)])) [false,false,false,false,false,false,false,false,false,false,false,false,false,false,false] rfl (by kernel_rfl) ?_;replace hS:=St.eY hS;(iterate 15 ((first|refine hxm 0 rfl ?_|refine hxm 1 rfl ?_|refine hxp 2 rfl ?_|refine hxp 3 rfl ?_|refine hxa 4 rfl ?_|refine hxm 5 rfl ?_|refine hxp 6 rfl ?_|refine hxp 7 rfl ?_|refine hxa 8 rfl ?_|refine hxp 9 rfl ?_|refine hxc 10 rfl ?_|refine hxp 11 rfl ?_|refine hxp 12 rfl ?_|refine hxp 13 rfl ?_|refine hxp 14 rfl ?_);refine zH ?_));refine wpAnyH_done (by kernel_rfl) ?_ _)
  generalize bits .xor .u64 _ _=t3
  go_wp2_with ((first|((with_reducible refine gL ?_);refine gY hS rfl rfl rfl ?_)|((with_reducible refine gS ?_);refine pX hS rfl rfl rfl ?_));refine⟨_,zd,?_⟩;clear hS;(try clear w');refine zF ?_;intro w' hS;(try simp only[sE]at hS))
  (refine bF (S:=(St w [bh] V [])) [false,false,false,false,false,false,false,false,false,false,false,false,false,false] rfl (by kernel_rfl) ?_;replace hS:=St.eY hS;(iterate 7 ((first|refine hxm 0 rfl ?_|refine hxm 1 rfl ?_|refine hxp 2 rfl ?_|refine hxp 3 rfl ?_|refine hxm 5 rfl ?_|refine hxp 6 rfl ?_|refine hxp 7 rfl ?_);refine zH ?_));refine nP 4 8 (by kernel_rfl) ?_ ?_;rotate_left;(refine yK 8 rfl hS rfl  rfl rfl ?_;refine⟨_,zd,?_⟩;clear hS;(try clear w');refine zH ?_;intro w' hS;refine⟨(St.aG hS),?_⟩);(refine hxp 9 rfl ?_;refine zH ?_);(refine AZ 4 (by kernel_rfl) rfl hS rfl rfl rfl ?_;refine⟨_,zd,?_⟩;clear hS;(try clear w');refine zH ?_;intro w' hS;refine⟨(St.aG hS),?_⟩);(iterate 3 ((first|refine hxp 10 rfl ?_|refine hxp 11 rfl ?_|refine hxp 12 rfl ?_);refine zH ?_));((refine jl 13 (by kernel_rfl) rfl hS rfl  rfl rfl ?_;refine⟨_,zd,?_⟩);clear hS;(try clear w');refine zH ?_;intro w' hS;(try simp only[sE]at hS);refine⟨(St.aG hS),?_⟩);refine wpAnyH_done (by kernel_rfl) ?_ _;rotate_left;(refine yK 4 rfl hS rfl  rfl rfl ?_;refine⟨_,zd,?_⟩;clear hS;(try clear w');refine zH ?_;intro w' hS;refine⟨(St.aG hS),?_⟩);(refine AZ 8 (by kernel_rfl) rfl hS rfl rfl rfl ?_;refine⟨_,zd,?_⟩;clear hS;(try clear w');refine zH ?_;intro w' hS;refine⟨(St.aG hS),?_⟩);(iterate 4 ((first|refine hxp 9 rfl ?_|refine hxp 10 rfl ?_|refine hxp 11 rfl ?_|refine hxp 12 rfl ?_);refine zH ?_));((refine jl 13 (by kernel_rfl) rfl hS rfl  rfl rfl ?_;refine⟨_,zd,?_⟩);clear hS;(try clear w');refine zH ?_;intro w' hS;(try simp only[sE]at hS);refine⟨(St.aG hS),?_⟩);refine wpAnyH_done (by kernel_rfl) ?_ _)
  all_goals (go_wp2_with (((with_reducible refine gL ?_);refine gY hS rfl rfl rfl ?_);refine⟨_,zd,?_⟩;clear hS;(try clear w');refine zF ?_;intro w' hS))
  all_goals (((try simp only[Exit.inBlock,Exit.then]);(try refine aB ?_);refine bK ⟨_,by exact bH (r1:=.tmp 2) (by kernel_rfl) (by exact bD rfl),?_⟩ rfl))
  all_goals exact⟨_,rfl,⟨_,rfl,Int.ediv_nonneg (BO _ _) (by decide)⟩,uo hS (by omega) (by omega)⟩
 ·clear hle
  go_enter Tryd.func96,Tryd.ntmps96
  go_wp2_with (((with_reducible refine gL ?_);refine gY hS rfl rfl rfl ?_);refine⟨_,zd,?_⟩;clear hS;(try clear w');refine zF ?_;intro w' hS)
  (refine bF (S:=(St w [bh] V [.blk bh 90 (Wp (.slice la l.length lcap) cn st)])) [false,false,false,false,false,false,false,false,false,false] rfl (by kernel_rfl) ?_;replace hS:=St.eY hS;(iterate 10 ((first|refine hxm 0 rfl ?_|refine hxp 1 rfl ?_|refine hxp 2 rfl ?_|refine hxa 3 rfl ?_|refine hxm 4 rfl ?_|refine hxp 5 rfl ?_|refine hxp 6 rfl ?_|refine hxa 7 rfl ?_|refine hxp 8 rfl ?_|refine hxp 9 rfl ?_);refine zH ?_));refine wpAnyH_done (by kernel_rfl) ?_ _)
  go_wp2_with ((first|((with_reducible refine gL ?_);refine gY hS rfl rfl rfl ?_)|((with_reducible refine gS ?_);refine pX hS rfl rfl rfl ?_));refine⟨_,zd,?_⟩;clear hS;(try clear w');refine zF ?_;intro w' hS;(try simp only[sE]at hS))
  (refine bF (S:=(St w [bh] V [])) [false,false,false,false,false,false,false,false,false,false,false,false,false,false] rfl (by kernel_rfl) ?_;replace hS:=St.eY hS;(iterate 7 ((first|refine hxm 0 rfl ?_|refine hxm 1 rfl ?_|refine hxp 2 rfl ?_|refine hxp 3 rfl ?_|refine hxm 5 rfl ?_|refine hxp 6 rfl ?_|refine hxp 7 rfl ?_);refine zH ?_));refine nP 4 8 (by kernel_rfl) ?_ ?_;rotate_left;(refine yK 8 rfl hS rfl  rfl rfl ?_;refine⟨_,zd,?_⟩;clear hS;(try clear w');refine zH ?_;intro w' hS;refine⟨(St.aG hS),?_⟩);(refine hxp 9 rfl ?_;refine zH ?_);(refine AZ 4 (by kernel_rfl) rfl hS rfl rfl rfl ?_;refine⟨_,zd,?_⟩;clear hS;(try clear w');refine zH ?_;intro w' hS;refine⟨(St.aG hS),?_⟩);(iterate 3 ((first|refine hxp 10 rfl ?_|refine hxp 11 rfl ?_|refine hxp 12 rfl ?_);refine zH ?_));((refine jl 13 (by kernel_rfl) rfl hS rfl  rfl rfl ?_;refine⟨_,zd,?_⟩);clear hS;(try clear w');refine zH ?_;intro w' hS;(try simp only[sE]at hS);refine⟨(St.aG hS),?_⟩);refine wpAnyH_done (by kernel_rfl) ?_ _;rotate_left;(refine yK 4 rfl hS rfl  rfl rfl ?_;refine⟨_,zd,?_⟩;clear hS;(try clear w');refine zH ?_;intro w' hS;refine⟨(St.aG hS),?_⟩);(refine AZ 8 (by kernel_rfl) rfl hS rfl rfl rfl ?_;refine⟨_,zd,?_⟩;clear hS;(try clear w');refine zH ?_;intro w' hS;refine⟨(St.aG hS),?_⟩);(iterate 4 ((first|refine hxp 9 rfl ?_|refine hxp 10 rfl ?_|refine hxp 11 rfl ?_|refine hxp 12 rfl ?_);refine zH ?_));((refine jl 13 (by kernel_rfl) rfl hS rfl  rfl rfl ?_;refine⟨_,zd,?_⟩);clear hS;(try clear w');refine zH ?_;intro w' hS;(try simp only[sE]at hS);refine⟨(St.aG hS),?_⟩);refine wpAnyH_done (by kernel_rfl) ?_ _)
  all_goals (go_wp2_with (((with_reducible refine gL ?_);refine gY hS rfl rfl rfl ?_);refine⟨_,zd,?_⟩;clear hS;(try clear w');refine zF ?_;intro w' hS))
  all_goals (((try simp only[Exit.inBlock,Exit.then]);(try refine aB ?_);refine bK ⟨_,by exact bH (r1:=.tmp 2) (by kernel_rfl) (by exact bD rfl),?_⟩ rfl))
  all_goals exact⟨_,rfl,⟨_,rfl,Int.ediv_nonneg (BO _ _) (by decide)⟩,uo hS (by omega) (by omega)⟩
structure xB (V:View) (bh:Nat) (lv:Value) (cn:Int):Prop where
 list:∃ l:List Int,VI V lv l
 pos:0<=cn
 small:cn<=1000000
class QO (cs:List Value) (l:outParam (List Int)):Prop where
 ok:cs=aV l
instance:QO [] []:=⟨rfl⟩
instance {x:Int} {cs:List Value} {l:List Int} [h:QO cs l]:QO (.int .i64 x::cs) (x::l):=⟨by rw[h.ok];rfl⟩
theorem xC {bh:Nat} {lv:Value} {cn st n:Int} (hh:xB V bh lv cn) (hn:n<=1000/\-1000<=n) (hV:V.In w) (hVb:V bh=none) (hg:w.heap[bh]? = some (.cells (Wp lv cn st).toArray 90 (0,0))) :
  Calls Tryd.prog 39 #[.pointer (some ⟨bh,0,none⟩),.int .i64 n] w fun e w'=>∃ v,e=.returned v/\(∃ x:Int,v=.int .i64 x/\0<=x/\x<=max n 0)/\Gg bh lv cn 1 w w':=by
 obtain⟨⟨l,hl⟩,h0,hc⟩:=hh
 obtain⟨hn1,hn2⟩:=hn
 have hS:=St.xW w V hV hg hVb
 have hst:=fun(w:World) (hV:V.In w)=>Xy (w:=w) bh l lv hl cn st h0 hc hVb hV
 clear hl hg
 by_cases h1:n<1
 ·go_enter Tryd.func39,Tryd.ntmps39
  go_wp2_with (go_at_call 96;refine eF hS ⟨1,_,fun _ hg=>hst _ (St.view hS) hg,?_⟩;clear hS;(try clear w');intro v cn' st' w' hp k1 k2 hS;(try simp only[sE]at hS);obtain⟨x,rfl,hx⟩:=hp)
  ((try simp only[Exit.inBlock,Exit.then]);(try refine aB ?_);refine bK ⟨_,by exact bH (r1:=.tmp 4) (by kernel_rfl) (by exact bD rfl),?_⟩ rfl)
  exact⟨_,rfl,⟨_,rfl,by omega,by omega⟩,uo hS (by omega) (by omega)⟩
 ·have hw:IntKind.u64.wrap n=n:=wrap_u64 n (by omega) (by omega)
  have hw2:IntKind.u64.wrap (n+1)=n+1:=wrap_u64 (n+1) (by omega) (by omega)
  have hr:∀ x:Int,0<=wrap64 (x % (n+1))/\wrap64 (x % (n+1))<=n:=fun x=>by
   have h2:=Int.emod_nonneg x (b:=n+1) (by omega)
   have h3:=Int.emod_lt_of_pos x (b:=n+1) (by omega)
   unfold wrap64
   omega
  replace hr:=aj hr
  go_enter Tryd.func39,Tryd.ntmps39
  go_wp2_with (go_at_call 96;refine eF hS ⟨1,_,fun _ hg=>hst _ (St.view hS) hg,?_⟩;clear hS;(try clear w');intro v cn' st' w' hp k1 k2 hS;(try simp only[sE]at hS);obtain⟨x,rfl,hx⟩:=hp)
  ((try simp only[Exit.inBlock,Exit.then]);(try refine aB ?_);refine bK ⟨_,by exact bH (r1:=.tmp 4) (by kernel_rfl) (by exact bD rfl),?_⟩ rfl)
  obtain⟨k3,k4⟩:=hr.out x
  exact⟨_,rfl,⟨_,rfl,k3,by omega⟩,uo hS (by omega) (by omega)⟩
theorem Qi {bh:Nat} {lv:Value} {cn st lo hi:Int} (hh:xB V bh lv cn) (hn:lo<=400/\-400<=lo/\hi<=400/\-400<=hi) (hV:V.In w) (hVb:V bh=none) (hg:w.heap[bh]? = some (.cells (Wp lv cn st).toArray 90 (0,0))) :
  Calls Tryd.prog 95 #[.pointer (some ⟨bh,0,none⟩),.int .i64 lo,.int .i64 hi] w fun e w'=>∃ v,e=.returned v/\(∃ x:Int,v=.int .i64 x/\lo<=x/\x<=max lo hi)/\Gg bh lv cn 1 w w':=by
 have hS:=St.xW w V hV hg hVb
 go_enter Tryd.func95,Tryd.ntmps95
 go_wp2_with (go_at_call 39;refine eF hS ⟨1,_,fun _ hg=>xC hh (by omega) (St.view hS) hVb hg,?_⟩;clear hS;(try clear w');intro v cn' st' w' hp k1 k2 hS;(try simp only[sE]at hS);obtain⟨x,rfl,hx⟩:=hp)
 ((try simp only[Exit.inBlock,Exit.then]);(try refine aB ?_);refine bK ⟨_,by exact bH (r1:=.tmp 6) (by kernel_rfl) (by exact bD rfl),?_⟩ rfl)
 exact⟨_,rfl,⟨_,rfl,by omega,by omega⟩,uo hS (by omega) (by omega)⟩
theorem TG {bh:Nat} {lv:Value} {cn st n:Int} (hh:xB V bh lv cn) (hn:n<=1000/\0<=n) (hV:V.In w) (hVb:V bh=none) (hg:w.heap[bh]? = some (.cells (Wp lv cn st).toArray 90 (0,0))) :
  Calls Tryd.prog 72 #[.pointer (some ⟨bh,0,none⟩),.int .i64 n] w fun e w'=>∃ v,e=.returned v/\(∃ x:Bool,v=.bool x)/\Gg bh lv cn 1 w w':=by
 have hS:=St.xW w V hV hg hVb
 go_enter Tryd.func72,Tryd.ntmps72
 go_wp2_with (go_at_call 39;refine eF hS ⟨1,_,fun _ hg=>xC hh (by omega) (St.view hS) hVb hg,?_⟩;clear hS;(try clear w');intro v cn' st' w' hp k1 k2 hS;(try simp only[sE]at hS);obtain⟨x,rfl,hx⟩:=hp)
 ((try simp only[Exit.inBlock,Exit.then]);(try refine aB ?_);refine bK ⟨_,by exact bH (r1:=.tmp 4) (by kernel_rfl) (by exact bD rfl),?_⟩ rfl)
 exact⟨_,rfl,⟨_,rfl⟩,uo hS (by omega) (by omega)⟩
theorem nI {cs:List Value} {l:List Int} (h:cs=aV l) {i:Nat} (hi:i<l.length):cs[i]? = some (.int .i64 (l.getD i 0)):=by
 subst h
 simp[aV,List.getD_eq_getElem?_getD,List.getElem?_eq_getElem hi]
theorem tH {bh b n cap:Nat} {lv:Value} {cn st:Int} {cs:List Value} {t:TypeId} {l2:List Int} [hcs:QO cs l2] (hh:xB V bh lv cn) (hb:w.heap[b]? = some (.cells cs.toArray t (0,0))) (hl:l2.length=n/\0<n/\n<=100) (hV:V.In w) (hVb:V bh=none) (hbb:b≠bh) (hg:w.heap[bh]? = some (.cells (Wp lv cn st).toArray 90 (0,0))) :
  Calls Tryd.prog 91 #[.pointer (some ⟨bh,0,none⟩),.slice (some ⟨b,0,none⟩) n cap] w fun e w'=>∃ v,e=.returned v/\(∃ x:Int,v=.int .i64 x/\x∈l2)/\Gg bh lv cn 1 w w':=by
 have hcs':=hcs.ok
 obtain⟨rfl,hn0,hn1⟩:=hl
 have hsub:∀ j o,V j=some o->Vw V b (.cells cs.toArray t (0,0)) j=some o:=fun j o hj=>by
  by_cases e:j=b
  ·subst e
   rw[Vw.same]
   have:=hV j o hj
   rw[hb]at this
   exact this
  ·rw[Vw.other _ _ e];exact hj
 have hV':(Vw V b (.cells cs.toArray t (0,0))).In w:=fun j o hj=>by
  by_cases e:j=b
  ·subst e
   rw[Vw.same]at hj
   cases hj
   exact hb
  ·rw[Vw.other _ _ e]at hj;exact hV j o hj
 have hVb':(Vw V b (.cells cs.toArray t (0,0))) bh=none:=by rw[Vw.other _ _ (Ne.symm hbb)];exact hVb
 have hh':xB (Vw V b (.cells cs.toArray t (0,0))) bh lv cn:=by
  obtain⟨⟨l,hl⟩,h0,hc⟩:=hh
  exact⟨⟨l,pW.mono hl hsub⟩,h0,hc⟩
 have hcell:∀ i:Nat,i<l2.length->(Vw V b (.cells cs.toArray t (0,0))).Cell b i (.int .i64 (l2.getD i 0)):=fun i hi=>⟨_,_,_,Vw.same _ _ _,by simpa using nI hcs' hi⟩
 generalize Vw V b (.cells cs.toArray t (0,0))=V2 at hV' hVb' hh' hcell
 clear hV hVb hh hsub hcs hcs' hb
 have hS:=St.xW w V2 hV' hg hVb'
 go_enter Tryd.func91,Tryd.ntmps91
 go_wp2_with (first|(((with_reducible refine gL ?_);refine nC hS rfl rfl rfl ?_);refine⟨_,zd,?_⟩;clear hS;(try clear w');refine zF ?_;intro w' hS)|(go_at_call 39;refine eF hS ⟨1,_,fun _ hg=>xC hh' (by omega) (St.view hS) hVb' hg,?_⟩;clear hS;(try clear w');intro v cn' st' w' hp k1 k2 hS;(try simp only[sE]at hS);obtain⟨x,rfl,hx0,hx1⟩:=hp;obtain⟨m,hm⟩:∃ m:Nat,x=(m:Int):=⟨x.toNat,by omega⟩;subst hm;have hc:=hcell m (by omega);have hm1:(m:Int)<l2.length:=by omega))
 ((try simp only[Exit.inBlock,Exit.then]);(try refine aB ?_);refine bK ⟨_,by exact bH (r1:=.tmp 4) (by kernel_rfl) (by exact bD rfl),?_⟩ rfl)
 refine⟨_,rfl,⟨_,rfl,?_⟩,uo hS (by omega) (by omega)⟩
 rw[List.getD_eq_getElem?_getD,List.getElem?_eq_getElem (by omega)]
 exact List.getElem_mem _
theorem SY {lv:Value} (hlv:∃ a n c,lv=.slice a n c):Calls Tryd.prog 23 #[lv] w fun e w'=>∃ g,e=.returned (.pointer (some ⟨g,0,none⟩))/\Kp w w'/\w.heap.size<=g/\w'.heap[g]? = some (.cells (Wp lv 0 11400714819323198485).toArray 90 (0,0)):=by
 obtain⟨a,n,c,rfl⟩:=hlv
 have hS:=St.start w (fun _=>none) (fun _ _ h=>nomatch h)
 go_enter Tryd.func23,Tryd.ntmps23
 go_wp2_with (((with_reducible refine gB ?_);refine jQ hS rfl rfl rfl ?_;refine⟨_,za,?_⟩);clear hS;(try clear w');intro _;refine zF ?_;intro w' hS)
 ((try simp only[Exit.inBlock,Exit.then]);(try refine aB ?_);refine bK ⟨_,by exact bH (r1:=.tmp 2) (by kernel_rfl) (by exact bD rfl),?_⟩ rfl)
 exact⟨_,rfl,hS.bM,hS.newAt,hS.dR⟩
end Go.Proofs.YtjjmefieegcddaaDoor
