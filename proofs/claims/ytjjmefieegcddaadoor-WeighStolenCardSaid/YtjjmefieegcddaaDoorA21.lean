/- A part of the proof: W25, W26, W27, W28, W62, W63, W64, W65, Q7, W29. -/
import Derived.Test.YtjjmefieegcddaaDoorA20
import Derived.Scope
import Derived.Test.YtjjmefieegcddaaDoorA14
set_option linter.unusedVariables false
set_option linter.unusedSimpArgs false
namespace Go.Proofs.YtjjmefieegcddaaDoor
open Go.RowKit Go.Wg Go.Mm
variable {w:World} {V:View}
def firstCan (k:Wk) (s:SS) (i:Nat):Option Nat:=(List.range 41).find? fun n=>can k (s.weighed i n)
def truthTo (k:Wk):Nat→SS × List Int
 | 0=>(nowS k noneB,[])
 | i+1=>match firstCan k (truthTo k i).1 i with
  | some n=>((truthTo k i).1.weighed i n,(truthTo k i).2 ++ [(n:Int)])
  | none=>truthTo k i
def truthE (k:Wk):List Int × Int :=
 if beginE k []=0 then (if (Go.Wg.settle k (nowS k noneB)).isNone then ((truthTo k k.n).2,0) else ([],9)) else ([],beginE k [])
theorem firstCan_hit {k:Wk} {s:SS} {i m:Nat} (hm:m < 41) (h0:∀ j,j < m→can k (s.weighed i j)=false) (h1:can k (s.weighed i m)=true):firstCan k s i=some m:=by
 unfold firstCan
 rw [List.find?_range_eq_some]
 exact ⟨h1,List.mem_range.2 hm,fun j hj=>by simp [h0 j hj]⟩
theorem firstCan_none {k:Wk} {s:SS} {i:Nat} (h0:∀ j:Nat,j < 41→can k (s.weighed i j)=false):firstCan k s i=none:=by
 unfold firstCan
 rw [List.find?_eq_none]
 intro j hj
 rw [h0 j (List.mem_range.1 hj)];decide
theorem truthTo_wf (k:Wk) (i:Nat):(truthTo k i).1.WF:=by
 induction i with
 | zero=>exact nowS_wf _ _
 | succ i ih =>
  rw [truthTo]
  split
  ·exact ih.weighed _ _
  ·exact ih
theorem truthTo_len (k:Wk) (i:Nat):(truthTo k i).2.length≤i:=by
 induction i with
 | zero=>simp [truthTo]
 | succ i ih =>
  rw [truthTo]
  split
  ·simp;omega
  ·omega
def intsC (l:List Int):List Value:=l.map fun n=>.int .i64 n
theorem intsC_len (l:List Int):(intsC l).length=l.length:=by simp [intsC]
def OwnInts (w w':World) (v:Value) (l:List Int):Prop:=w'.ownsRow 0 3 1 v l.length (intsC l)∧∀ b,v.ownBlock=some b→w.heap.size≤b
theorem own_of {v:Value} {l:List Int} {V':View} {L:List Ent} {w':World} (hS:St w [] V' L w') {j:Nat} (hj:L[j]? = some (.row v 3 1 l.length (intsC l))):OwnInts w w' v l :=
 ⟨hS.atRow hj,fun b hb=>by
  rcases hS.new _ (List.mem_of_getElem? hj) b hb with h | h
  ·exact h
  ·cases h⟩
set_option maxRecDepth 20000 in
set_option maxHeartbeats 4000000 in
theorem Truth_ok (vv rv:Value) (k:Wk) (hk:WkIn V vv rv k) (hG:GV V) (hV:V.In w) :
  Calls Tryd.prog 27 #[.agg #[vv,rv]] w fun r w'=>∃ v,r=.returned (.tuple #[v,.int .i64 (truthE k).2])∧Kp w w'∧OwnInts w w' v (truthE k).1:=by
 have hk0:=hk
 obtain ⟨va,vcap,rfl,hvc,hvm,hve⟩:=hk0.ves.is
 obtain ⟨ra,rcap,rfl,hrc,hrm,hre⟩:=hk0.rdg.is
 have hS:=(St.start w V hV).nilRow 3 1
 clear hk0 hve hre
 by_cases hb:beginE k []=0
 ·have hok:=beginE_check hb
  have hpos:=hok.pos
  have hn6:=hok.le
  cases hst:Go.Wg.settle k (nowS k noneB) with
  | none =>
   have hcan:can k (nowS k noneB)=true:=by unfold can;rw [hst];rfl
   have hC:truthE k=((truthTo k k.n).2,0):=by unfold truthE;rw [if_pos hb,hst];rfl
   rw [hC]
   simp only
   have HL0:(stC (nowS k noneB)).length=18:=stC_len (nowS_wf _ _)
   have HT0:(truthTo k 0).1=nowS k noneB:=rfl
   have HT1:(truthTo k 0).2=[]:=rfl
   replace hC:=mkHid hC;replace hst:=mkHid hst;replace hcan:=mkHid hcan;replace hb:=mkHid hb;replace HT0:=mkHid HT0;replace HT1:=mkHid HT1
   go_enter_defers Tryd.func27,Tryd.ntmps27
   go_wp2_with (first | (first | ((first | ((with_reducible refine gL ?_);first | refine ql1 hS rfl rfl rfl ?_ | refine qln hS rfl rfl rfl ?_ | refine qv1 hS rfl rfl rfl ?_) | ((with_reducible refine gS ?_);first | refine qs1 hS rfl rfl rfl ?_ | refine qsall hS rfl rfl rfl ?_));refine ⟨_,zd,?_⟩;clear hS;(try clear w');intro a' hp;(try simp only [fr] at hp);subst hp;intro w' hS;(try simp only [sE] at hS)) | ((with_reducible refine gA ?_);refine qallocd 3 rfl hS rfl rfl ?_;clear hS;(try clear w');intro b3;intro a' hp;(try simp only [fr] at hp);subst hp;intro w' hS) | ((with_reducible refine gA ?_);refine qallocd 5 rfl hS rfl rfl ?_;clear hS;(try clear w');intro b5;intro a' hp;(try simp only [fr] at hp);subst hp;intro w' hS) | (((with_reducible refine gB ?_);refine qbox hS rfl rfl rfl ?_;refine ⟨_,za,?_⟩);clear hS;(try clear w');intro _;intro a' hp;(try simp only [fr] at hp);subst hp;intro w' hS)) |
    (go_at_call 77;refine calls_begin hS hk nilSl (by simp) hb.out ?_;clear hS;(try clear w');intro p V' w' hVV hcel hS;have hG':GV V':=hG.mono hVV;obtain ⟨ts,vv',rv',hC'⟩:=id hcel;obtain ⟨g,cap,hc2,hts⟩:=hC'.c2;clear hC' hts) |
    (go_at_call 83;refine calls_by hS ⟨_,must_ok V' p k hcel hok hcan.out _ (St.view hS),?_⟩;clear hS;(try clear w');intro w' hS))
   go_loopw [2,23] (fun sv iv wr=>∃ i:Nat,i≤k.n∧iv=.int .i64 (i:Int)∧sv.oneCell'=true∧St w [] V' [.blk b5 100 (stC (truthTo k i).1),.blk b3 38 [.int .i64 0],.row sv 3 1 (truthTo k i).2.length (intsC (truthTo k i).2)] wr) (fun _ iv _=>k.n - (intOf iv).toNat)
   case atStart=>exact ⟨0,by omega,rfl,rfl,by
    have h2:St w [] V' [.blk b5 100 (stC (nowS k noneB)),.blk b3 38 [.int .i64 0],.row (.slice none 0 0) 3 1 0 []] w':=hS.subI
    exact h2⟩
   case round =>
    clear hS
    obtain ⟨i,hi,rfl,hone,hS⟩:=hrel
    by_cases hlt:i < k.n
    ·have h0:(0:Int)≤i:=by omega
     have h1:(i:Int) < k.n:=by omega
     have hi6:i < 6:=by omega
     have hs:=truthTo_wf k i
     have hll:=truthTo_len k i
     have HT:truthTo k (i+1)=match firstCan k (truthTo k i).1 i with | some n=>((truthTo k i).1.weighed i n,(truthTo k i).2 ++ [(n:Int)]) | none=>((truthTo k i).1,(truthTo k i).2):=by
      rw [truthTo]
     replace HT:=mkHid HT
     generalize (truthTo k i).1=s at hS hs HT
     generalize (truthTo k i).2=l at hS hll HT
     have hls:(stC s).length=18:=stC_len hs
     have hil:=intsC_len l
     go_wp2_with (fail)
     refine wp_scope_straight ?_
     go_wp2_with (fail)
     refine wp_label ?_
     go_wp2_with (fail)
     go_loopw [2,26] (fun sv' nv wr=>∃ m:Nat,m≤41∧sv'=u2∧nv=.int .i64 (m:Int)∧(∀ j:Nat,j < m→can k (s.weighed i j)=false)∧St w [] V' [.blk b5 100 (stC s),.blk b3 38 [.int .i64 0],.row u2 3 1 l.length (intsC l)] wr) (fun _ nv _=>41 - (intOf nv).toNat)
     case atStart=>exact ⟨0,by omega,rfl,rfl,fun j hj=>absurd hj (by omega),hS⟩
     case round =>
      clear hS
      obtain ⟨m,hm,rfl,rfl,hno,hS⟩:=hrel
      by_cases hm4:m < 41
      ·have hm0:(0:Int)≤m:=by omega
       have hm1:(m:Int) < 41:=by omega
       have hsw:=hs.weighed i m
       have hlw:(stC (s.weighed i m)).length=18:=stC_len hsw
       generalize hcn:can k (s.weighed i m)=cn
       have hcon:∀ w',V'.In w'→Calls Tryd.prog 78 #[.pointer (some ⟨p,0,none⟩),.agg (stC (s.weighed i m)).toArray] w' fun r w''=>r=.returned (.bool cn)∧Kp w' w'':=fun w' hV'=>by rw [← hcn];exact can_ok V' p k hcel hG' _ hsw w' hV'
       replace hno:=mkHid hno
       cases cn
       ·replace hcn:=mkHid hcn
        go_wp2_with (first | (((with_reducible refine gL ?_);refine qln hS rfl rfl rfl ?_);refine ⟨_,zd,?_⟩;clear hS;(try clear w');intro a' hp;(try simp only [fr] at hp);subst hp;intro w' hS;(try simp only [sE] at hS)) | (go_at_call 84;refine calls_by hS ⟨_,weighed_ok s hs i hi6 m _,?_⟩;clear hS;(try clear w');intro w' hS) | (go_at_call 78;refine calls_by hS ⟨_,hcon _ (St.view hS),?_⟩;clear hS;(try clear w');intro w' hS))
        go_roundw
        case rel=>exact ⟨m+1,by omega,rfl,by go_num,fun j hj=>by
         by_cases hjm:j=m
         ·subst hjm;exact hcn.out
         ·exact hno.out j (by omega),hS⟩
        case measure=>simp only [intOf];omega
       ·have hfc:=firstCan_hit hm4 hno.out hcn
        replace hcn:=mkHid hcn
        replace hfc:=mkHid hfc
        go_wp2_with (first | ((first | ((with_reducible refine gL ?_);refine qln hS rfl rfl rfl ?_) | ((with_reducible refine gS ?_);refine qsall hS rfl rfl rfl ?_));refine ⟨_,zd,?_⟩;clear hS;(try clear w');intro a' hp;(try simp only [fr] at hp);subst hp;intro w' hS;(try simp only [sE] at hS)) | ((with_reducible refine gSl ?_);refine qbsl hS rfl rfl ?_;refine ⟨_,zq,zd,?_⟩;clear hS;(try clear w');intro _;intro a' hp;(try simp only [fr] at hp);subst hp;intro w' hS) | ((with_reducible refine gAp ?_);refine qap rfl rfl ?_;refine ⟨_,_,_,_,by exact rfl,by exact rfl,?_⟩;refine appG_of hS zd ?_;clear hS;(try clear w');intro va w' hS;intro a' hp;(try simp only [fr] at hp);subst hp;(try simp only [sE] at hS);have hva:=rowOne hS va) | (go_at_call 84;refine calls_by hS ⟨_,weighed_ok s hs i hi6 m _,?_⟩;clear hS;(try clear w');intro w' hS) | (go_at_call 78;refine calls_by hS ⟨_,hcon _ (St.view hS),?_⟩;clear hS;(try clear w');intro w' hS))
        simp only [Exit.noGoto]
        go_wp2_with (fail)
        go_roundw
        case rel =>
         refine ⟨i+1,by omega,by go_num,hva,?_⟩
         rw [HT.out,hfc.out]
         have ei:intsC (l ++ [(m:Int)])=intsC l ++ [.int .i64 (m:Int)]:=by simp [intsC]
         simp only [ei,List.length_append,List.length_cons,List.length_nil,Nat.zero_add]
         exact hS.subI
        case measure=>simp only [intOf];omega
      ·obtain rfl:m=41:=by omega
       have hfc:=firstCan_none hno
       replace hno:=mkHid hno
       replace hfc:=mkHid hfc
       go_wp2_with (fail)
       simp only [Exit.noGoto]
       go_wp2_with (fail)
       go_roundw
       case rel =>
        refine ⟨i+1,by omega,by go_num,hone,?_⟩
        rw [HT.out,hfc.out]
        exact hS
       case measure=>simp only [intOf];omega
    ·obtain rfl:i=k.n:=by omega
     go_wp2_with (((with_reducible refine gS ?_);refine qs1 hS rfl rfl rfl ?_);refine ⟨_,zd,?_⟩;clear hS;(try clear w');intro a' hp;(try simp only [fr] at hp);subst hp;intro w' hS;(try simp only [sE] at hS))
     (refine door_idle hS ?_;clear hS;(try clear w');intro w' hS;(try simp only [sE] at hS);refine ⟨_,by exact results2 (r1:=.tmp 2) (r2:=.cell 3 38) (by kernel_rfl) (by exact rs_tmp rfl) (by exact rs_1 hS rfl zd),?_⟩)
     exact ⟨_,rfl,hS.toKp,own_of hS (j:=2) rfl⟩
  | some i =>
   have hC:truthE k=([],9):=by unfold truthE;rw [if_pos hb,hst];rfl
   rw [hC]
   simp only
   replace hC:=mkHid hC;replace hst:=mkHid hst;replace hb:=mkHid hb
   go_enter_defers Tryd.func27,Tryd.ntmps27
   go_wp2_with (first | (first | ((first | ((with_reducible refine gL ?_);first | refine ql1 hS rfl rfl rfl ?_ | refine qln hS rfl rfl rfl ?_) | ((with_reducible refine gS ?_);refine qs1 hS rfl rfl rfl ?_));refine ⟨_,zd,?_⟩;clear hS;(try clear w');intro a' hp;(try simp only [fr] at hp);subst hp;intro w' hS;(try simp only [sE] at hS)) | ((with_reducible refine gA ?_);refine qallocd 3 rfl hS rfl rfl ?_;clear hS;(try clear w');intro b3;intro a' hp;(try simp only [fr] at hp);subst hp;intro w' hS) | (((with_reducible refine gB ?_);refine qbox hS rfl rfl rfl ?_;refine ⟨_,za,?_⟩);clear hS;(try clear w');intro _;intro a' hp;(try simp only [fr] at hp);subst hp;intro w' hS)) |
    (go_at_call 77;refine calls_begin hS hk nilSl (by simp) hb.out ?_;clear hS;(try clear w');intro p V' w' hVV hcel hS;have hG':GV V':=hG.mono hVV) |
    (go_at_call 83;refine calls_panic hS (must_no V' p k hcel hok i hst.out _ (St.view hS)) ?_;clear hS;(try clear w');intro w' hS))
   (refine door_hit hS ?_;clear hS;(try clear w');intro w' hS;(try simp only [sE] at hS);refine ⟨_,by exact results2 (r1:=.tmp 2) (r2:=.cell 3 38) (by kernel_rfl) (by exact rs_tmp rfl) (by exact rs_1 hS rfl zd),?_⟩)
   exact ⟨_,rfl,hS.toKp,own_of hS (l:=[]) (j:=2) rfl⟩
 ·have hC:truthE k=([],beginE k []):=by unfold truthE;rw [if_neg hb]
  rw [hC]
  simp only
  have hb':(beginE k [] == 0)=false:=by rw [beq_eq_false_iff_ne];exact hb
  have hE:Go.RowKit.Hid (∃ e,beginE k []=e):=mkHid ⟨_,rfl⟩
  obtain ⟨e,he⟩:=hE.out
  rw [he] at hb' ⊢
  replace hC:=mkHid hC;replace he:=mkHid he
  go_enter_defers Tryd.func27,Tryd.ntmps27
  go_wp2_with (first | (first | ((first | ((with_reducible refine gL ?_);first | refine ql1 hS rfl rfl rfl ?_ | refine qln hS rfl rfl rfl ?_) | ((with_reducible refine gS ?_);refine qs1 hS rfl rfl rfl ?_));refine ⟨_,zd,?_⟩;clear hS;(try clear w');intro a' hp;(try simp only [fr] at hp);subst hp;intro w' hS;(try simp only [sE] at hS)) | ((with_reducible refine gA ?_);refine qallocd 3 rfl hS rfl rfl ?_;clear hS;(try clear w');intro b3;intro a' hp;(try simp only [fr] at hp);subst hp;intro w' hS) | (((with_reducible refine gB ?_);refine qbox hS rfl rfl rfl ?_;refine ⟨_,za,?_⟩);clear hS;(try clear w');intro _;intro a' hp;(try simp only [fr] at hp);subst hp;intro w' hS)) |
   (go_at_call 77;refine calls_begin_bad hS hk nilSl (by simp) hb ?_;rw [he.out];clear hS;(try clear w');intro w' hS))
  (refine held_start (S:=(St w [] V [.blk b3 38 [.int .i64 e]])) [false,false,false] rfl (by kernel_rfl) ?_;replace hS:=St.drew1 hS;(refine hxa 0 rfl ?_;intro a' l' hp hl;(try simp only [fr] at hp);(try simp only [sB] at hl);subst hp;subst hl);(refine he_pure 1 (by kernel_rfl) rfl rfl (St.subI hS) ?_;refine ⟨_,zp,?_⟩;intro a' l' hp hl;(try simp only [fr] at hp);(try simp only [sB] at hl);subst hp;subst hl);((refine he_s1 2 (by kernel_rfl) rfl hS rfl  rfl rfl ?_;refine ⟨_,zd,?_⟩);clear hS;(try clear w');intro a' l' hp hl;(try simp only [fr] at hp);(try simp only [sB] at hl);subst hp;subst hl;intro w' hS;(try simp only [sE] at hS);refine ⟨(St.subI hS),?_⟩);refine wpAnyH_done (by kernel_rfl) ?_ _)
  go_wp2_with (fail)
  (refine door_idle hS ?_;clear hS;(try clear w');intro w' hS;(try simp only [sE] at hS);refine ⟨_,by exact results2 (r1:=.tmp 2) (r2:=.cell 3 38) (by kernel_rfl) (by exact rs_tmp rfl) (by exact rs_1 hS rfl zd),?_⟩)
  exact ⟨_,rfl,hS.toKp,own_of hS (l:=[]) (j:=2) rfl⟩
end Go.Proofs.YtjjmefieegcddaaDoor
namespace Go.Proofs.YtjjmefieegcddaaDoor
open Go.RowKit Go.Wg Go.Mm
variable {w0 w:World} {X:List Nat} {V:View} {L:List Ent}
end Go.Proofs.YtjjmefieegcddaaDoor
namespace Go.Proofs.YtjjmefieegcddaaDoor
open Go.RowKit Go.Wg Go.Mm
variable {w:World} {V:View}
def beyondE (k:Wk) (v:Int):Int × Int :=
 if beginE k [v]=0 then (match beyondS k v.toNat with | some n=>((n:Int),0) | none=>(0,11)) else (0,beginE k [v])
set_option maxRecDepth 20000 in
set_option maxHeartbeats 2000000 in
theorem Beyond_ok (vv rv:Value) (k:Wk) (hk:WkIn V vv rv k) (hG:GV V) (hV:V.In w) (v:Int) :
  Calls Tryd.prog 51 #[.agg #[vv,rv],.int .i64 v] w fun r w'=>r=.returned (.tuple #[.int .i64 (beyondE k v).1,.int .i64 (beyondE k v).2])∧Kp w w':=by
 have hk0:=hk
 obtain ⟨va,vcap,rfl,hvc,hvm,hve⟩:=hk0.ves.is
 obtain ⟨ra,rcap,rfl,hrc,hrm,hre⟩:=hk0.rdg.is
 have hS:=St.start w V hV
 clear hk0 hve hre
 by_cases hb:beginE k [v]=0
 ·have hok:=beginE_check hb
  obtain ⟨hv0,hv1⟩:=beginE_one hb
  obtain ⟨vn,rfl⟩:∃ vn:Nat,v=(vn:Int):=⟨v.toNat,by omega⟩
  have hv6:vn < 6:=by have:=hok.le;omega
  have hhi:=nowS_hi k hok noneB vn
  have hlo0:0≤((nowS k noneB).losAt vn).2:=by
   have h1:=nowS_los k hok noneB vn
   rw [if_pos (by omega:vn < k.n)] at h1
   rw [h1]
   exact (hok.ves vn (by omega)).2.2.2.2.2.2.1
  have hcon:=fun V' p hcel hG' w' hV'=>beyond_ok V' p k hcel hok hG' vn hv6 hlo0 (Int.le_trans hhi (by decide)) w' hV'
  have hC:beyondE k vn=(match beyondS k vn with | some n=>((n:Int),0) | none=>(0,11)):=by unfold beyondE;rw [if_pos hb];rfl
  clear hhi hlo0
  cases hst:beyondS k vn with
  | none =>
   rw [hst] at hC hcon
   rw [hC]
   simp only
   unfold beyondV at hcon
   replace hC:=mkHid hC;replace hst:=mkHid hst;replace hb:=mkHid hb
   go_enter Tryd.func51,Tryd.ntmps51
   go_wp2_with (first | (first | (((with_reducible refine gL ?_);refine qln hS rfl rfl rfl ?_);refine ⟨_,zd,?_⟩;clear hS;(try clear w');intro a' hp;(try simp only [fr] at hp);subst hp;intro w' hS;(try simp only [sE] at hS)) | (((with_reducible refine gB ?_);refine qbox hS rfl rfl rfl ?_;refine ⟨_,za,?_⟩);clear hS;(try clear w');intro _;intro a' hp;(try simp only [fr] at hp);subst hp;intro w' hS)) | (((with_reducible refine gSl ?_);refine qbsl hS rfl rfl ?_;refine ⟨_,zq,zd,?_⟩;clear hS;(try clear w');intro _;intro a' hp;(try simp only [fr] at hp);subst hp;intro w' hS);obtain ⟨V1,hV1,hcell,hS'⟩:=pin hS;clear hS;have hS:=hS';clear hS';have hsl:=oneSl hcell;have hk1:=wkIn_mono hk hV1;clear hcell) |
    (go_at_call 77;refine calls_begin hS hk1 hsl (by simp) hb.out ?_;clear hS;(try clear w');intro p V' w' hVV hcel hS;have hG':GV V':=(hG.mono hV1).mono hVV) |
    (go_at_call 101;refine calls_by hS ⟨_,hcon V' p hcel hG' _ (St.view hS),?_⟩;clear hS;(try clear w');intro w' hS))
   ((try simp only [Exit.inBlock,Exit.then]);(try refine bodyPost_norm ?_);refine ret_by ⟨_,by exact results2 (r1:=.tmp 4) (r2:=.tmp 5) (by kernel_rfl) (by exact rs_tmp rfl) (by exact rs_tmp rfl),?_⟩ rfl)
   exact ⟨rfl,hS.toKp⟩
  | some n =>
   rw [hst] at hC hcon
   rw [hC]
   simp only
   unfold beyondV at hcon
   replace hC:=mkHid hC;replace hst:=mkHid hst;replace hb:=mkHid hb
   go_enter Tryd.func51,Tryd.ntmps51
   go_wp2_with (first | (first | (((with_reducible refine gL ?_);refine qln hS rfl rfl rfl ?_);refine ⟨_,zd,?_⟩;clear hS;(try clear w');intro a' hp;(try simp only [fr] at hp);subst hp;intro w' hS;(try simp only [sE] at hS)) | (((with_reducible refine gB ?_);refine qbox hS rfl rfl rfl ?_;refine ⟨_,za,?_⟩);clear hS;(try clear w');intro _;intro a' hp;(try simp only [fr] at hp);subst hp;intro w' hS)) | (((with_reducible refine gSl ?_);refine qbsl hS rfl rfl ?_;refine ⟨_,zq,zd,?_⟩;clear hS;(try clear w');intro _;intro a' hp;(try simp only [fr] at hp);subst hp;intro w' hS);obtain ⟨V1,hV1,hcell,hS'⟩:=pin hS;clear hS;have hS:=hS';clear hS';have hsl:=oneSl hcell;have hk1:=wkIn_mono hk hV1;clear hcell) |
    (go_at_call 77;refine calls_begin hS hk1 hsl (by simp) hb.out ?_;clear hS;(try clear w');intro p V' w' hVV hcel hS;have hG':GV V':=(hG.mono hV1).mono hVV) |
    (go_at_call 101;refine calls_by hS ⟨_,hcon V' p hcel hG' _ (St.view hS),?_⟩;clear hS;(try clear w');intro w' hS))
   ((try simp only [Exit.inBlock,Exit.then]);(try refine bodyPost_norm ?_);refine ret_by ⟨_,by exact results2 (r1:=.tmp 4) (r2:=.tmp 5) (by kernel_rfl) (by exact rs_tmp rfl) (by exact rs_tmp rfl),?_⟩ rfl)
   exact ⟨rfl,hS.toKp⟩
 ·have hC:beyondE k v=(0,beginE k [v]):=by unfold beyondE;rw [if_neg hb]
  rw [hC]
  simp only
  have hb':(beginE k [v] == 0)=false:=by rw [beq_eq_false_iff_ne];exact hb
  have hE:Go.RowKit.Hid (∃ e,beginE k [v]=e):=mkHid ⟨_,rfl⟩
  obtain ⟨e,he⟩:=hE.out
  rw [he] at hb' ⊢
  replace hC:=mkHid hC;replace he:=mkHid he
  go_enter Tryd.func51,Tryd.ntmps51
  go_wp2_with (first | (first | (((with_reducible refine gL ?_);refine qln hS rfl rfl rfl ?_);refine ⟨_,zd,?_⟩;clear hS;(try clear w');intro a' hp;(try simp only [fr] at hp);subst hp;intro w' hS;(try simp only [sE] at hS)) | (((with_reducible refine gB ?_);refine qbox hS rfl rfl rfl ?_;refine ⟨_,za,?_⟩);clear hS;(try clear w');intro _;intro a' hp;(try simp only [fr] at hp);subst hp;intro w' hS)) | (((with_reducible refine gSl ?_);refine qbsl hS rfl rfl ?_;refine ⟨_,zq,zd,?_⟩;clear hS;(try clear w');intro _;intro a' hp;(try simp only [fr] at hp);subst hp;intro w' hS);obtain ⟨V1,hV1,hcell,hS'⟩:=pin hS;clear hS;have hS:=hS';clear hS';have hsl:=oneSl hcell;have hk1:=wkIn_mono hk hV1;clear hcell) |
   (go_at_call 77;refine calls_begin_bad hS hk1 hsl (by simp) hb ?_;rw [he.out];clear hS;(try clear w');intro w' hS))
  ((try simp only [Exit.inBlock,Exit.then]);(try refine bodyPost_norm ?_);refine ret_by ⟨_,by exact results2 (r1:=.tmp 4) (r2:=.tmp 5) (by kernel_rfl) (by exact rs_tmp rfl) (by exact rs_tmp rfl),?_⟩ rfl)
  exact ⟨rfl,hS.toKp⟩
end Go.Proofs.YtjjmefieegcddaaDoor
namespace Go.Proofs.YtjjmefieegcddaaDoor
open Go.RowKit Go.Wg Go.Mm
variable {w:World} {V:View}
end Go.Proofs.YtjjmefieegcddaaDoor
namespace Go.Proofs.YtjjmefieegcddaaDoor
open Go.RowKit Go.Wg Go.Mm
variable {w:World} {V:View}
set_option maxRecDepth 20000 in
set_option maxHeartbeats 4000000 in
theorem Thieves_ok (vv rv:Value) (k:Wk) (hk:WkIn V vv rv k) (hG:GV V) (hV:V.In w) :
  Calls Tryd.prog 49 #[.agg #[vv,rv]] w fun r w'=>∃ v,r=.returned (.tuple #[v,.int .i64 (thievesE k).2])∧Kp w w'∧OwnInts w w' v (thievesE k).1:=by
 have hk0:=hk
 obtain ⟨va,vcap,rfl,hvc,hvm,hve⟩:=hk0.ves.is
 obtain ⟨ra,rcap,rfl,hrc,hrm,hre⟩:=hk0.rdg.is
 have hS:=(St.start w V hV).nilRow 3 1
 clear hk0 hve hre
 by_cases hb:beginE k []=0
 ·have hok:=beginE_check hb
  have hpos:=hok.pos
  have hn6:=hok.le
  have hC:thievesE k=(thievesTo k k.n,0):=by unfold thievesE;rw [if_pos hb]
  rw [hC]
  simp only
  have HT0:thievesTo k 0=[]:=rfl
  replace hC:=mkHid hC;replace hb:=mkHid hb;replace HT0:=mkHid HT0
  go_enter Tryd.func49,Tryd.ntmps49
  go_wp2_with (first | (first | (((with_reducible refine gL ?_);first | refine qln hS rfl rfl rfl ?_ | refine qv1 hS rfl rfl rfl ?_);refine ⟨_,zd,?_⟩;clear hS;(try clear w');intro a' hp;(try simp only [fr] at hp);subst hp;intro w' hS;(try simp only [sE] at hS)) | (((with_reducible refine gB ?_);refine qbox hS rfl rfl rfl ?_;refine ⟨_,za,?_⟩);clear hS;(try clear w');intro _;intro a' hp;(try simp only [fr] at hp);subst hp;intro w' hS)) |
   (go_at_call 77;refine calls_begin hS hk nilSl (by simp) hb.out ?_;clear hS;(try clear w');intro p V' w' hVV hcel hS;have hG':GV V':=hG.mono hVV;obtain ⟨ts,vv',rv',hC'⟩:=id hcel;obtain ⟨g,cap,hc2,hts⟩:=hC'.c2;clear hC' hts))
  go_loopw [6,23] (fun sv iv wr=>∃ i:Nat,i≤k.n∧iv=.int .i64 (i:Int)∧sv.oneCell'=true∧St w [] V' [.row sv 3 1 (thievesTo k i).length (intsC (thievesTo k i))] wr) (fun _ iv _=>k.n - (intOf iv).toNat)
  case atStart=>exact ⟨0,by omega,rfl,rfl,by
   have h2:St w [] V' [.row (.slice none 0 0) 3 1 0 []] w':=hS.subI
   exact h2⟩
  case round =>
   clear hS
   obtain ⟨i,hi,rfl,hone,hS⟩:=hrel
   by_cases hlt:i < k.n
   ·have h0:(0:Int)≤i:=by omega
    have h1:(i:Int) < k.n:=by omega
    have hi6:i < 6:=by omega
    have hll:=thievesTo_len k i
    have hhi:=nowS_hi k hok noneB i
    have hlo0:0≤((nowS k noneB).losAt i).2:=by
     have h1:=nowS_los k hok noneB i
     rw [if_pos hlt] at h1
     rw [h1]
     exact (hok.ves i hlt).2.2.2.2.2.2.1
    have hcon:=fun w' hV'=>beyond_ok V' p k hcel hok hG' i hi6 hlo0 (Int.le_trans hhi (by decide)) w' hV'
    have HT:thievesTo k (i+1)=match beyondS k i with | some n=>if 0 < n then thievesTo k i ++ [(i:Int)] else thievesTo k i | none=>thievesTo k i:=by rw [thievesTo];rfl
    generalize thievesTo k i=l at hS hll HT
    have hil:=intsC_len l
    clear hhi hlo0
    unfold beyondV at hcon
    cases hst:beyondS k i with
    | none =>
     rw [hst] at hcon HT
     simp only at hcon HT
     replace HT:=mkHid HT;replace hst:=mkHid hst
     go_wp2_with (go_at_call 101;refine calls_by hS ⟨_,hcon _ (St.view hS),?_⟩;clear hS;(try clear w');intro w' hS)
     go_roundw
     case rel =>
      refine ⟨i+1,by omega,by go_num,hone,?_⟩
      rw [HT.out]
      exact hS.subI
     case measure=>simp only [intOf];omega
    | some n =>
     rw [hst] at hcon HT
     simp only at hcon HT
     replace hst:=mkHid hst
     by_cases hn:0 < n
     ·rw [if_pos hn] at HT
      have hn':(0:Int) < n:=by omega
      replace HT:=mkHid HT
      go_wp2_with (first | ((with_reducible refine gSl ?_);refine qbsl hS rfl rfl ?_;refine ⟨_,zq,zd,?_⟩;clear hS;(try clear w');intro _;intro a' hp;(try simp only [fr] at hp);subst hp;intro w' hS) | ((with_reducible refine gAp ?_);refine qap rfl rfl ?_;refine ⟨_,_,_,_,by exact rfl,by exact rfl,?_⟩;refine appG_of hS zd ?_;clear hS;(try clear w');intro va w' hS;intro a' hp;(try simp only [fr] at hp);subst hp;(try simp only [sE] at hS);have hva:=rowOne hS va) | (go_at_call 101;refine calls_by hS ⟨_,hcon _ (St.view hS),?_⟩;clear hS;(try clear w');intro w' hS))
      go_roundw
      case rel =>
       refine ⟨i+1,by omega,by go_num,hva,?_⟩
       rw [HT.out]
       have ei:intsC (l ++ [(i:Int)])=intsC l ++ [.int .i64 (i:Int)]:=by simp [intsC]
       simp only [ei,List.length_append,List.length_cons,List.length_nil,Nat.zero_add]
       exact hS.subI
      case measure=>simp only [intOf];omega
     ·rw [if_neg hn] at HT
      obtain rfl:n=0:=by omega
      replace HT:=mkHid HT
      go_wp2_with (go_at_call 101;refine calls_by hS ⟨_,hcon _ (St.view hS),?_⟩;clear hS;(try clear w');intro w' hS)
      go_roundw
      case rel =>
       refine ⟨i+1,by omega,by go_num,hone,?_⟩
       rw [HT.out]
       exact hS.subI
      case measure=>simp only [intOf];omega
   ·obtain rfl:i=k.n:=by omega
    go_wp2_with (fail)
    ((try simp only [Exit.inBlock,Exit.then]);(try refine bodyPost_norm ?_);refine ret_by ⟨_,by exact results2 (r1:=.tmp 2) (r2:=.tmp 3) (by kernel_rfl) (by exact rs_tmp rfl) (by exact rs_tmp rfl),?_⟩ rfl)
    exact ⟨_,rfl,hS.toKp,own_of hS (j:=0) rfl⟩
 ·have hC:thievesE k=([],beginE k []):=by unfold thievesE;rw [if_neg hb]
  rw [hC]
  simp only
  have hb':(beginE k [] == 0)=false:=by rw [beq_eq_false_iff_ne];exact hb
  have hE:Go.RowKit.Hid (∃ e,beginE k []=e):=mkHid ⟨_,rfl⟩
  obtain ⟨e,he⟩:=hE.out
  rw [he] at hb' ⊢
  replace hC:=mkHid hC;replace he:=mkHid he
  go_enter Tryd.func49,Tryd.ntmps49
  go_wp2_with (first | (first | (((with_reducible refine gL ?_);refine qln hS rfl rfl rfl ?_);refine ⟨_,zd,?_⟩;clear hS;(try clear w');intro a' hp;(try simp only [fr] at hp);subst hp;intro w' hS;(try simp only [sE] at hS)) | (((with_reducible refine gB ?_);refine qbox hS rfl rfl rfl ?_;refine ⟨_,za,?_⟩);clear hS;(try clear w');intro _;intro a' hp;(try simp only [fr] at hp);subst hp;intro w' hS)) |
   (go_at_call 77;refine calls_begin_bad hS hk nilSl (by simp) hb ?_;rw [he.out];clear hS;(try clear w');intro w' hS))
  ((try simp only [Exit.inBlock,Exit.then]);(try refine bodyPost_norm ?_);refine ret_by ⟨_,by exact results2 (r1:=.tmp 2) (r2:=.tmp 3) (by kernel_rfl) (by exact rs_tmp rfl) (by exact rs_tmp rfl),?_⟩ rfl)
  exact ⟨_,rfl,hS.toKp,own_of hS (l:=[]) (j:=1) rfl⟩
end Go.Proofs.YtjjmefieegcddaaDoor
namespace Go.Proofs.YtjjmefieegcddaaDoor
open Go.RowKit Go.Wg Go.Mm
variable {w:World} {V:View}
end Go.Proofs.YtjjmefieegcddaaDoor
namespace Go.Proofs.YtjjmefieegcddaaDoor
open Go.RowKit Go.Wg Go.Mm
variable {w:World} {V:View}
set_option maxHeartbeats 1000000 in
theorem reading_ok (r:Rdg) (w:World):Calls Tryd.prog 42 #[.int .i64 r.vessel,.int .i64 r.scale,.int .i64 r.shown,.int .i64 r.err] w fun e w'=>e=.returned (.agg r.cells.toArray)∧Kp w w':=by
 have hS:=St.start w (fun _=>none) (fun k o h=>by cases h)
 unfold Rdg.cells
 go_enter Tryd.func42,Tryd.ntmps42
 go_wp2_with (first | (((with_reducible refine gS ?_);refine qsall hS rfl rfl rfl ?_);refine ⟨_,zd,?_⟩;clear hS;(try clear w');intro a' hp;(try simp only [fr] at hp);subst hp;intro w' hS;(try simp only [sE] at hS)) | (((with_reducible refine gA ?_);refine qalloc hS rfl rfl ?_);clear hS;(try clear w');intro _;intro a' hp;(try simp only [fr] at hp);subst hp;intro w' hS))
 ((try simp only [Exit.inBlock,Exit.then]);(try refine bodyPost_norm ?_);refine ret_by ⟨_,by exact results1 (r1:=.cell 8 59) (by kernel_rfl) (by exact rs_n hS rfl zd),?_⟩ rfl)
 exact ⟨rfl,hS.toKp⟩
set_option maxHeartbeats 1000000 in
theorem vessel_ok (v:Ves) (w:World):Calls Tryd.prog 76 #[.int .i64 v.from_,.int .i64 v.room,.int .i64 v.lo,.int .i64 v.hi] w fun e w'=>e=.returned (.agg v.cells.toArray)∧Kp w w':=by
 have hS:=St.start w (fun _=>none) (fun k o h=>by cases h)
 unfold Ves.cells
 go_enter Tryd.func76,Tryd.ntmps76
 go_wp2_with (first | (((with_reducible refine gS ?_);refine qsall hS rfl rfl rfl ?_);refine ⟨_,zd,?_⟩;clear hS;(try clear w');intro a' hp;(try simp only [fr] at hp);subst hp;intro w' hS;(try simp only [sE] at hS)) | (((with_reducible refine gA ?_);refine qalloc hS rfl rfl ?_);clear hS;(try clear w');intro _;intro a' hp;(try simp only [fr] at hp);subst hp;intro w' hS))
 ((try simp only [Exit.inBlock,Exit.then]);(try refine bodyPost_norm ?_);refine ret_by ⟨_,by exact results1 (r1:=.cell 8 29) (by kernel_rfl) (by exact rs_n hS rfl zd),?_⟩ rfl)
 exact ⟨rfl,hS.toKp⟩
theorem run_bs23_3 {o:Oper} {ρ:Operand→Value} {x y z:Operand} {a b c:Rdg} (ho:o.op=.buildSlice 23 3 #[(0,x),(1,y),(2,z)]) (hx:ρ x=.agg a.cells.toArray) (hy:ρ y=.agg b.cells.toArray) (hz:ρ z=.agg c.cells.toArray) (w:World) :
  (execOp ρ o).run Tryd.prog w=.ok (.value (.slice (some ⟨w.heap.size,0,none⟩) 3 3)) (w.alloc (.cells (rdgC [a,b,c]).toArray 59)):=by
 unfold execOp
 simp only [ho,List.map_toArray,List.map_cons,List.map_nil,hx,hy,hz]
 kernel_rfl
theorem run_bs23_1 {o:Oper} {ρ:Operand→Value} {x:Operand} {a:Rdg} (ho:o.op=.buildSlice 23 1 #[(0,x)]) (hx:ρ x=.agg a.cells.toArray) (w:World) :
  (execOp ρ o).run Tryd.prog w=.ok (.value (.slice (some ⟨w.heap.size,0,none⟩) 1 1)) (w.alloc (.cells (rdgC [a]).toArray 59)):=by
 unfold execOp
 simp only [ho,List.map_toArray,List.map_cons,List.map_nil,hx]
 kernel_rfl
theorem run_bs22_4 {o:Oper} {ρ:Operand→Value} {x y z u:Operand} {a b c d:Ves} (ho:o.op=.buildSlice 22 4 #[(0,x),(1,y),(2,z),(3,u)]) (hx:ρ x=.agg a.cells.toArray) (hy:ρ y=.agg b.cells.toArray) (hz:ρ z=.agg c.cells.toArray) (hu:ρ u=.agg d.cells.toArray) (w:World) :
  (execOp ρ o).run Tryd.prog w=.ok (.value (.slice (some ⟨w.heap.size,0,none⟩) 4 4)) (w.alloc (.cells (vesC [a,b,c,d]).toArray 29)):=by
 unfold execOp
 simp only [ho,List.map_toArray,List.map_cons,List.map_nil,hx,hy,hz,hu]
 kernel_rfl
theorem run_bs22_1 {o:Oper} {ρ:Operand→Value} {x:Operand} {a:Ves} (ho:o.op=.buildSlice 22 1 #[(0,x)]) (hx:ρ x=.agg a.cells.toArray) (w:World) :
  (execOp ρ o).run Tryd.prog w=.ok (.value (.slice (some ⟨w.heap.size,0,none⟩) 1 1)) (w.alloc (.cells (vesC [a]).toArray 29)):=by
 unfold execOp
 simp only [ho,List.map_toArray,List.map_cons,List.map_nil,hx]
 kernel_rfl
theorem run_apnil {o:Oper} {ρ:Operand→Value} {x y:Operand} {g:Nat} (ho:o.op=.call { callee:=.builtin .append,args:=#[x,y],argTypes:=#[23,23] }) (hx:ρ x=.slice (some ⟨g,0,none⟩) 3 3) (hy:ρ y=.slice none 0 0) (w:World) :
  (execOp ρ o).run Tryd.prog w=.ok (.value (.slice (some ⟨g,0,none⟩) 3 3)) w:=by
 unfold execOp
 simp only [ho,List.map_toArray,List.map_cons,List.map_nil,hx,hy,resolve]
 kernel_rfl
end Go.Proofs.YtjjmefieegcddaaDoor
namespace Go.Proofs.YtjjmefieegcddaaDoor
open Go.RowKit Go.Wg Go.Mm
variable {w:World} {V:View}
theorem qraw {w0:World} {X:List Nat} {L:List Ent} {ops:Array Oper} {o:Oper} {rest:List Oper} {a:Act} {Q:Exit→Act→World→Prop} (hS:St w0 X V L w) (hgd:Region.wanted o (yielded ops a.tmps)=true) {n:Nat} {e:TypeId} {vs:List Value}
  (hr:∀ w,(execOp a.eval o).run Tryd.prog w=.ok (.value (.slice (some ⟨w.heap.size,0,none⟩) n n)) (w.alloc (.cells vs.toArray e)))
  (h:∀ b a',a.put o.dst (.slice (some ⟨b,0,none⟩) n n)=a'→∀ w',St w0 X V (.blk b e vs :: L) w'→wpList Tryd.prog ops Q rest a' w'):wpList Tryd.prog ops Q (o :: rest) a w :=
 wpl_value hgd (hr w) (h _ _ rfl _ (hS.alloc e vs))
theorem qpure {ops:Array Oper} {o:Oper} {rest:List Oper} {a:Act} {Q:Exit→Act→World→Prop} (hgd:Region.wanted o (yielded ops a.tmps)=true) {v:Value} (hr:∀ w,(execOp a.eval o).run Tryd.prog w=.ok (.value v) w)
  (h:∀ a',a.put o.dst v=a'→wpList Tryd.prog ops Q rest a' w):wpList Tryd.prog ops Q (o :: rest) a w :=
 wpl_value hgd (hr w) (h _ rfl)
theorem st_row {w0:World} {X:List Nat} {L:List Ent} {g s n:Nat} {e:TypeId} {cs:List Value} (h:St w0 X V (.blk g e cs :: L) w) (hl:cs.length=n * s) (hn:n≤maxLen):St w0 X V (.row (.slice (some ⟨g,0,none⟩) n n) e s n cs :: L) w:=by
 have hb:w.heap[g]? = some (.cells cs.toArray e (0,0)):=h.has _ (List.mem_cons_self ..)
 refine ⟨h.os,h.output,h.size,h.old,h.view,fun f hf=>?_,fun f hf b hb'=>?_,fun f hf b hb'=>?_,?_⟩
 ·rcases List.mem_cons.1 hf with rfl | hf
  ·refine ⟨⟨hl,.inr ⟨g,n,cs.toArray,rfl,Nat.zero_le _,hb,Nat.le_refl _,hn,by simpa using hl,by rw [List.take_of_length_le (by simp [hl])]⟩⟩,fun g' hg' cur t fr hcur i c hi hc=>?_⟩
   have:g'=g:=by simpa [Value.ownBlock] using hg'.symm
   subst this
   rw [hb] at hcur
   cases hcur
   have:=(Array.getElem?_eq_some_iff.1 hc).1
   simp [hl] at this
   omega
  ·exact h.has f (List.mem_cons_of_mem _ hf)
 ·rcases List.mem_cons.1 hf with rfl | hf
  ·exact h.new (.blk g e cs) (List.mem_cons_self ..) b hb'
  ·exact h.new f (List.mem_cons_of_mem _ hf) b hb'
 ·rcases List.mem_cons.1 hf with rfl | hf
  ·exact h.off (.blk g e cs) (List.mem_cons_self ..) b hb'
  ·exact h.off f (List.mem_cons_of_mem _ hf) b hb'
 ·exact h.nd
theorem run_append_v {P:Program} {w0:World} {X:List Nat} {L:List Ent} (hS:St w0 X V L w) {o:Oper} {ρ:Operand→Value} {sl x:Operand} {t e:TypeId} {size:Nat} (ho:o.op=.call { callee:=.builtin .append,args:=#[sl,x],argTypes:=#[t,t] })
  (ht:slB P t e size=true) {j n:Nat} {v:Value} {xs:List Value} (hj:L[j]? = some (.row v e size n xs)) (hv:ρ sl=v)
  {b m c:Nat} {news:List Value} (hjb:V.Range b 0 news) (hx:ρ x=.slice (some ⟨b,0,none⟩) m c) (hm:news.length=m * size) (h1:∀ u∈news,u.oneCell'=true) (hn:n+m≤1000) :
  ∃ v' w',(execOp ρ o).run P w=.ok (.value v') w'∧St w0 X V (L.set j (.row v' e size (n+m) (xs ++ news))) w':=by
 have hcell:∀ i u,news[i]? = some u→w.cell? ⟨b,i,none⟩=some u:=fun i u hi=>by
  have:=(hjb i u hi).cell hS.view
  rwa [Nat.zero_add] at this
 unfold slB at ht
 simp only [Bool.and_eq_true] at ht
 obtain ⟨⟨ht1,ht2⟩,ht3⟩:=ht
 have hu:P.underlying t=some (.slice e):=by
  cases hd:P.underlying t with
  | none=>rw [hd] at ht1;cases ht1
  | some d=>rw [hd] at ht1;cases d <;> simp_all
 cases hq:P.info? e with
 | none=>rw [hq] at ht2;cases ht2
 | some q =>
  rw [hq] at ht2
  simp only [Option.any_some,Bool.and_eq_true,beq_iff_eq,decide_eq_true_eq] at ht2
  obtain ⟨⟨hqs,hqz⟩,hqb⟩:=ht2
  cases hz:q.zero with
  | none=>rw [hz] at hqz;cases hqz
  | some z =>
   rw [hz] at hqz
   simp only [Option.any_some,Bool.and_eq_true,beq_iff_eq] at hqz
   obtain ⟨hqz,hqf⟩:=hqz
   have hsz:0 < size:=by simpa using ht3
   obtain ⟨v',w',hr,h2,h3,_,h5⟩:=run_append_own_at (P:=P) w 0 t o.type e q z size q.bytes hu hq hz hqs rfl hqz hsz v n xs (hS.atRow hj) ⟨b,0,none⟩ m c news hm
    (fun i u hi=>by rw [Addr.add_mid];simpa using hcell i u hi) h1 (by unfold maxLen;omega) (by
     have:(n+m) * q.bytes≤1000 * 1000:=Nat.mul_le_mul hn hqb
     omega) (Nat.zero_le _)
   refine ⟨v',w',?_,hS.grow hj h3 h2 (hqs ▸ append_pad (P:=P) hu hq hz hqf (hqs ▸ hS.atRow hj) (hqs ▸ hS.atPad hj) (a:=⟨b,0,none⟩) (hqs ▸ hm) (fun i u hi=>by rw [Addr.add_mid];simpa using hcell i u hi) h1 (by unfold maxLen;omega) (by
     have:(n+m) * q.bytes≤1000 * 1000:=Nat.mul_le_mul hn hqb
     omega) hr) h5⟩
   unfold execOp
   simp only [ho,resolve,invoke,builtin,Sem.run_bind,Sem.run_pure,Result.andThen_ok,List.map_toArray,List.map_cons,List.map_nil,hv,hx,hr]
theorem qapone {w0:World} {X:List Nat} {L:List Ent} {e1:Ent} {ops:Array Oper} {o:Oper} {rest:List Oper} {a:Act} {Q:Exit→Act→World→Prop} {g bm n m:Nat} {cs news:List Value} (hS:St w0 X V (e1 :: .blk g 59 cs :: L) w) (hgd:Region.wanted o (yielded ops a.tmps)=true)
  {x y:Operand} (ho:o.op=.call { callee:=.builtin .append,args:=#[x,y],argTypes:=#[23,23] }) (hx:a.eval x=.slice (some ⟨g,0,none⟩) n n) (hy:a.eval y=.slice (some ⟨bm,0,none⟩) m m) (hl:cs.length=n * 4) (hm:V.Range bm 0 news) (hlm:news.length=m * 4) (h1:∀ u∈news,u.oneCell'=true) (hn:n+m≤1000) (hm0:0 < m)
  (h:∀ g' cap a',a.put o.dst (.slice (some ⟨g',0,none⟩) (n+m:Nat) cap)=a'→∀ w',St w0 X V (.row (.slice (some ⟨g',0,none⟩) (n+m:Nat) cap) 59 4 (n+m) (cs ++ news) :: e1 :: L) w'→wpList Tryd.prog ops Q rest a' w'):wpList Tryd.prog ops Q (o :: rest) a w:=by
 have hS1:=st_row (hS.perm (List.Perm.swap _ _ _)) hl (by unfold maxLen;omega)
 obtain ⟨v',w',hr,hS2⟩:=run_append_v (P:=Tryd.prog) hS1 ho (by kernel_rfl) (j:=0) rfl hx hm hy hlm h1 hn
 rw [List.set_cons_zero] at hS2
 have hrow:=(hS2.has _ (List.mem_cons_self ..)).1
 rcases hrow.2 with ⟨_,h0⟩ | ⟨g',cap,cur,rfl,_⟩
 ·omega
 ·exact wpl_value hgd hr (h g' cap _ rfl w' hS2)
theorem reading4 (a b c d:Int) (w:World):Calls Tryd.prog 42 #[.int .i64 a,.int .i64 b,.int .i64 c,.int .i64 d] w fun e w'=>e=.returned (.agg (Rdg.cells ⟨a,b,c,d⟩).toArray)∧Kp w w':=reading_ok ⟨a,b,c,d⟩ w
theorem vessel4 (a b c d:Int) (w:World):Calls Tryd.prog 76 #[.int .i64 a,.int .i64 b,.int .i64 c,.int .i64 d] w fun e w'=>e=.returned (.agg (Ves.cells ⟨a,b,c,d⟩).toArray)∧Kp w w':=vessel_ok ⟨a,b,c,d⟩ w
def MeltR (V:View) (w:World) (k:Wk) (e:Ending) (w':World):Prop :=
 ∃ (V':View) (vv rv:Value),e=.returned (.agg #[vv,rv])∧Kp w w'∧(∀ i,i < w.heap.size→V' i=V i)∧V'.In w'∧WkIn V' vv rv k
set_option maxRecDepth 20000 in
set_option maxHeartbeats 4000000 in
theorem melt_nil (hB:Bs V) (hV:V.In w):Calls Tryd.prog 75 #[.slice none 0 0] w (MeltR V w (meltK [])):=by
 have hS:=St.start w V hV
 go_enter Tryd.func75,Tryd.ntmps75
 go_wp2_with (first | (first | (((with_reducible refine gS ?_);refine qsall hS rfl rfl rfl ?_);refine ⟨_,zd,?_⟩;clear hS;(try clear w');intro a' hp;(try simp only [fr] at hp);subst hp;intro w' hS;(try simp only [sE] at hS)) | (((with_reducible refine gA ?_);refine qalloc hS rfl rfl ?_);clear hS;(try clear w');intro _;intro a' hp;(try simp only [fr] at hp);subst hp;intro w' hS)) |
  (go_at_call 42;refine calls_by hS ⟨_,reading4 _ _ _ _ _,?_⟩;clear hS;(try clear w');intro w' hS) |
  (go_at_call 76;refine calls_by hS ⟨_,vessel4 _ _ _ _ _,?_⟩;clear hS;(try clear w');intro w' hS) |
  ((with_reducible refine gSl ?_);refine qraw hS rfl (run_bs23_3 (a:=⟨0,0,30,1⟩) (b:=⟨2,1,12,1⟩) (c:=⟨3,1,15,0⟩) rfl rfl rfl rfl) ?_;clear hS;(try clear w');intro bR a' hp;(try simp only [fr] at hp);subst hp;intro w' hS) |
  ((with_reducible refine gSl ?_);refine qraw hS rfl (run_bs22_4 (a:=⟨-1,40,1,4⟩) (b:=⟨0,20,0,2⟩) (c:=⟨0,20,0,0⟩) (d:=⟨1,20,0,0⟩) rfl rfl rfl rfl rfl) ?_;clear hS;(try clear w');intro bV a' hp;(try simp only [fr] at hp);subst hp;intro w' hS) |
  ((with_reducible refine gAp ?_);refine qpure rfl (run_apnil rfl rfl rfl) ?_;intro a' hp;(try simp only [fr] at hp);subst hp))
 ((try simp only [Exit.inBlock,Exit.then]);(try refine bodyPost_norm ?_);refine ret_by ⟨_,by exact results1 (r1:=.cell 2 25) (by kernel_rfl) (by exact rs_n hS rfl zd),?_⟩ rfl)
 have h1:=hS.has1 (b:=bV)
 have h2:=hS.has1 (b:=bR)
 obtain ⟨V',h3,h4,h5⟩:=wk_of (k:=meltK []) hB hV hS.toKp (by decide) (hS.newAt (b:=bV)) (hS.newAt (b:=bR)) h1 h2 (Nat.le_refl _) (by decide) (by rfl) (fun i c hi hc=>by
  have:=(Array.getElem?_eq_some_iff.1 hc).1
  have e:(rdgC [⟨0,0,30,1⟩,⟨2,1,12,1⟩,⟨3,1,15,0⟩]).toArray.size=12:=rfl
  have e2:(meltK []).rdg.length=3:=rfl
  omega)
 exact ⟨V',_,_,rfl,hS.toKp,h3,h4,h5⟩
set_option maxRecDepth 20000 in
set_option maxHeartbeats 4000000 in
theorem melt_one (hB:Bs V) (hV:V.In w) {bm:Nat} (r:Rdg) (hm:V.Range bm 0 (rdgC [r])):Calls Tryd.prog 75 #[.slice (some ⟨bm,0,none⟩) 1 1] w (MeltR V w (meltK [r])):=by
 have hS:=St.start w V hV
 have hro:∀ u∈rdgC [r],u.oneCell'=true:=fun u hu=>by
  simp [rdgC,Rdg.cells] at hu
  rcases hu with rfl | rfl | rfl | rfl <;> rfl
 go_enter Tryd.func75,Tryd.ntmps75
 go_wp2_with (first | (first | (((with_reducible refine gS ?_);refine qsall hS rfl rfl rfl ?_);refine ⟨_,zd,?_⟩;clear hS;(try clear w');intro a' hp;(try simp only [fr] at hp);subst hp;intro w' hS;(try simp only [sE] at hS)) | (((with_reducible refine gA ?_);refine qalloc hS rfl rfl ?_);clear hS;(try clear w');intro _;intro a' hp;(try simp only [fr] at hp);subst hp;intro w' hS)) |
  (go_at_call 42;refine calls_by hS ⟨_,reading4 _ _ _ _ _,?_⟩;clear hS;(try clear w');intro w' hS) |
  (go_at_call 76;refine calls_by hS ⟨_,vessel4 _ _ _ _ _,?_⟩;clear hS;(try clear w');intro w' hS) |
  ((with_reducible refine gSl ?_);refine qraw hS rfl (run_bs23_3 (a:=⟨0,0,30,1⟩) (b:=⟨2,1,12,1⟩) (c:=⟨3,1,15,0⟩) rfl rfl rfl rfl) ?_;clear hS;(try clear w');intro bR a' hp;(try simp only [fr] at hp);subst hp;intro w' hS) |
  ((with_reducible refine gSl ?_);refine qraw hS rfl (run_bs22_4 (a:=⟨-1,40,1,4⟩) (b:=⟨0,20,0,2⟩) (c:=⟨0,20,0,0⟩) (d:=⟨1,20,0,0⟩) rfl rfl rfl rfl rfl) ?_;clear hS;(try clear w');intro bV a' hp;(try simp only [fr] at hp);subst hp;intro w' hS) |
  ((with_reducible refine gAp ?_);refine qapone hS rfl rfl rfl rfl rfl hm rfl hro (by decide) (by decide) ?_;clear hS;(try clear w');intro gR cap a' hp;(try simp only [fr] at hp);subst hp;intro w' hS))
 ((try simp only [Exit.inBlock,Exit.then]);(try refine bodyPost_norm ?_);refine ret_by ⟨_,by exact results1 (r1:=.cell 2 25) (by kernel_rfl) (by exact rs_n hS rfl zd),?_⟩ rfl)
 have h1:=hS.has1 (b:=bV)
 obtain ⟨hrw,hpd⟩:=hS.has _ (List.mem_cons_self ..)
 have hnew:=(hS.new _ (List.mem_cons_self ..) gR rfl).elim id (fun h=>nomatch h)
 rcases hrw.2 with ⟨h0,_⟩ | ⟨g',cap',cur,he,_,h2,hc1,hc2,hcs,hct⟩
 ·cases h0
 ·cases he
  obtain ⟨V',h3,h4,h5⟩:=wk_of (k:=meltK [r]) hB hV hS.toKp ⟨by show (4:Nat)≤100;decide,by show (4:Nat)≤100;decide⟩ (hS.newAt (b:=bV)) hnew h1 h2 hc1 hc2 hct (fun i c hi hc=>hpd gR rfl cur 59 (0,0) h2 i c hi hc)
  exact ⟨V',_,_,rfl,hS.toKp,h3,h4,h5⟩
end Go.Proofs.YtjjmefieegcddaaDoor
namespace Go.Wk
open Go
variable {P:Program}
def Reach (P:Program) (ops:Array Oper) (l:List Nat) (S:Act→World→Prop) (c:Code) (a:Act) (w:World):Prop :=
 ∀ (b:Frame) (cs:List Frame),∃ a' w',S a' w'∧Steps P (lone (b.at a [.code c]) cs w) (lone (b.at a' [.inRegion ops l]) cs w')
def ReachI (P:Program) (ops:Array Oper) (l:List Nat) (S:Act→World→Prop) (l0:List Nat) (a:Act) (w:World):Prop :=
 ∀ (b:Frame) (cs:List Frame),∃ a' w',S a' w'∧Steps P (lone (b.at a [.inRegion ops l0]) cs w) (lone (b.at a' [.inRegion ops l]) cs w')
variable {ops:Array Oper} {l:List Nat} {S:Act→World→Prop} {a:Act} {w:World}
theorem reach_seq {x y:Code} (h:x.wp P (fun e a' w'=>e=.normal∧Reach P ops l S y a' w') a w):Reach P ops l S (.seq x y) a w:=by
 intro b cs
 obtain ⟨e,a₁,w₁,⟨rfl,hR⟩,harr⟩:=h b [.code y] cs
 obtain ⟨a',w',hs,hst⟩:=hR b cs
 exact ⟨a',w',hs,.head step_seq (Steps.trans harr hst)⟩
theorem reach_region {id:Nat} (h:ReachI P ops l S (List.range ops.size) a w):Reach P ops l S (.region id ops false) a w:=by
 intro b cs
 obtain ⟨a',w',hs,hst⟩:=h b cs
 exact ⟨a',w',hs,.head step_region hst⟩
theorem reachI_here (h:S a w):ReachI P ops l S l a w:=fun _ _=>⟨a,w,h,.refl _ _⟩
theorem reachI_op {i:Nat} {rest:List Nat} {o:Oper} {v:Value} {w':World} (ho:ops[i]? = some o) (hw:Region.wanted o (yielded ops a.tmps)=true) (hr:(execOp a.eval o).run P w=.ok (.value v) w')
  (h:ReachI P ops l S rest (a.put o.dst v) w'):ReachI P ops l S (i :: rest) a w:=by
 intro b cs
 obtain ⟨a',w'',hs,hst⟩:=h b cs
 have hg:=stepG_op (P:=P) (b:=b) (k:=[]) (cs:=cs) (w:=w) (rest:=rest) ho hw
 have hfin:(b.at a (.inRegion ops (i :: rest) :: [])).finish v=b.at (a.put o.dst v) (.inRegion ops rest :: []):=by rw [Frame.finish_at,ho];rfl
 refine ⟨a',w'',hs,.head (step_lone_go ?_) hst⟩
 rw [hg,← hfin]
 simp [stepG.apply,hr]
theorem reach_enter {f:FuncId} {fn:Func} {c:Code} {args:Array Value} (hf:P.funcs[f]? = some fn) (hb:fn.body=some c) (h:Reach P ops l S c { tmps:=args ++ Array.replicate (fn.ntmps - args.size) undef,defers:=[] } w) (cs:List Frame) :
  ∃ a' w',S a' w'∧Steps P (lone (Frame.enter P f args .normal) cs w) (lone ((Frame.enter P f args .normal).at a' [.inRegion ops l]) cs w'):=by
 obtain ⟨a',w',hs,hst⟩:=h (Frame.enter P f args .normal) cs
 refine ⟨a',w',hs,?_⟩
 have e:(Frame.enter P f args .normal).at { tmps:=args ++ Array.replicate (fn.ntmps - args.size) undef,defers:=[] } [.code c]=Frame.enter P f args .normal:=by
  simp [Frame.at,Frame.enter,hf,hb]
 rw [e] at hst
 exact hst
end Go.Wk
namespace Go.Proofs.YtjjmefieegcddaaDoor
open Go.RowKit Go.Wg Go.Mm Go.Wk
variable {w:World} {V:View}
noncomputable def sendOps:Array Oper:=match Tryd.f123.body with
 | some (.seq _ (.seq _ (.seq _ (.seq _ (.region _ ops _)))))=>ops
 | _=>#[]
set_option maxRecDepth 20000 in
set_option maxHeartbeats 4000000 in
theorem found_reach (p:Nat) (k:Wk) (ts:List Nat) (vv rv:Value) (hC:Cel V p k ts vv rv) (hok:k.Ok) (s:SS) (hs:s.WF) (hlo:∀ i,0≤(s.losAt i).1) (hhi:∀ i,(s.losAt i).2≤1000) (st:Bool) (i:Nat) (hi:i < k.n)
  (bt bs bst bf c:Nat) (h1:V.Cell bt 0 (ptr (ts.getD i 0))) (h2:V.Range bs 0 (stC s)) (h3:V.Cell bst 0 (.bool st)) (h4:V.Cell bf 0 (.chan (some c))) (hV:V.In w) (cs:List Frame) :
  ∃ a' w',(a'.defers=[]∧a'.tmps.toList[40]? = some (.chan (some c))∧a'.tmps.toList[41]? = some (spanV (foundS k s st i))∧Kp w w') ∧
   Steps Tryd.prog (lone (Frame.enter Tryd.prog 123 #[ptr bt,ptr bs,ptr bst,ptr bf] .normal) cs w) (lone ((Frame.enter Tryd.prog 123 #[ptr bt,ptr bs,ptr bst,ptr bf] .normal).at a' [.inRegion sendOps [2]]) cs w'):=by
 have hn6:=hC.le
 have hlen:(stC s).length=18:=stC_len hs
 have hsp:=spread_ok V p k ts vv rv hC hok s hs hlo hhi st (k.n - i) i (by omega) hi (Nat.le_refl _)
 have hgw:=spreadF_wf k s st hlo (k.n - i) i
 have hF:foundS k s st i=(foundTo (spreadF k s st (k.n - i) i) 41).getD (0,0):=rfl
 rw [hF]
 generalize spreadF k s st (k.n - i) i=G at hsp hgw
 have hS:=St.start w V hV
 clear hC hlo hhi hF hi
 unfold ptr at *
 generalize ts.getD i 0=ti at h1 hsp
 refine reach_enter Tryd.func123 rfl ?_ cs
 simp only [Tryd.ntmps123,List.size_toArray,List.length_cons,List.length_nil,Nat.reduceAdd,Nat.reduceSub,Array.replicate_succ,Array.replicate_zero,List.push_toArray,List.append_toArray,List.nil_append,List.cons_append]
 refine reach_seq ?_
 go_wp2_with (first | (((with_reducible refine gL ?_);first | refine qv1 hS rfl rfl rfl ?_ | refine qvn hS rfl rfl rfl ?_);refine ⟨_,zd,?_⟩;clear hS;(try clear w');intro a' hp;(try simp only [fr] at hp);subst hp;intro w' hS;(try simp only [sE] at hS)) | (go_at_call 124;refine calls_new hS ⟨_,_,hsp _ (St.view hS),?_⟩;clear hS;(try clear w');intro g w' hS))
 refine reach_seq ?_
 go_wp2_with ((with_reducible refine gA ?_);refine qallocd 5 rfl hS rfl rfl ?_;clear hS;(try clear w');intro b5;intro a' hp;(try simp only [fr] at hp);subst hp;intro w' hS)
 refine reach_seq ?_
 go_wp2_with (fail)
 refine reach_seq ?_
 go_wp2_with (fail)
 have hha:=grC_has hgw
 have hsa:=hgw.small
 go_loopw [6,12] (fun sv mv wr=>∃ m:Nat,m≤41∧sv=.bool (foundTo G m).isSome∧mv=.int .i64 (m:Int)∧St w [] V [.blk b5 27 [.int .i64 ((foundTo G m).getD (0,0)).1,.int .i64 ((foundTo G m).getD (0,0)).2],.blk g 170 (grC G)] wr) (fun _ mv _=>41 - (intOf mv).toNat)
 case atStart=>exact ⟨0,by omega,rfl,rfl,hS⟩
 case round =>
  clear hS
  obtain ⟨m,hm,rfl,rfl,hS⟩:=hrel
  by_cases hm4:m < 41
  ·have hm0:(0:Int)≤m:=by omega
   have hm1:(m:Int) < 41:=by omega
   have hga:=grC_at hgw hm4
   have HR:foundTo G (m+1)=if G.has.testBit m then some (match foundTo G m with | none=>G.get m | some r=>widerS r (G.get m)) else foundTo G m:=rfl
   cases hb:G.has.testBit m
   ·rw [hb] at HR
    replace HR:=mkHid HR
    generalize foundTo G m=fo at hS HR
    go_wp2_with (first | (((with_reducible refine gL ?_);refine ql1 hS rfl rfl rfl ?_);refine ⟨_,zd,?_⟩;clear hS;(try clear w');intro a' hp;(try simp only [fr] at hp);subst hp;intro w' hS;(try simp only [sE] at hS)) | (go_at_call 125;refine (has_ok G.has m (by omega) (by omega) _).mono ?_;rw [hb];rintro _ w' ⟨rfl,rfl⟩))
    go_roundw
    case rel=>exact ⟨m+1,by omega,by rw [HR.out];rfl,by go_num,by rw [HR.out];exact hS⟩
    case measure=>simp only [intOf];omega
   ·rw [hb] at HR
    cases hfo:foundTo G m with
    | none =>
     rw [hfo] at HR hS
     replace HR:=mkHid HR;replace hfo:=mkHid hfo
     go_wp2_with (first | ((first | ((with_reducible refine gL ?_);first | refine ql1 hS rfl rfl rfl ?_ | refine qln hS rfl rfl rfl ?_) | ((with_reducible refine gS ?_);refine qsall hS rfl rfl rfl ?_));refine ⟨_,zd,?_⟩;clear hS;(try clear w');intro a' hp;(try simp only [fr] at hp);subst hp;intro w' hS;(try simp only [sE] at hS)) | (go_at_call 125;refine (has_ok G.has m (by omega) (by omega) _).mono ?_;rw [hb];rintro _ w' ⟨rfl,rfl⟩))
     go_roundw
     case rel=>exact ⟨m+1,by omega,by rw [HR.out];rfl,by go_num,by rw [HR.out];exact hS⟩
     case measure=>simp only [intOf];omega
    | some r =>
     rw [hfo] at HR hS
     have hwid:=fun w=>wider_ok r (G.get m) w
     unfold spanV at hwid
     simp only at HR
     generalize widerS r (G.get m)=u at hwid HR
     replace HR:=mkHid HR;replace hfo:=mkHid hfo
     go_wp2_with (first | (((with_reducible refine gL ?_);refine ql1 hS rfl rfl rfl ?_);refine ⟨_,zd,?_⟩;clear hS;(try clear w');intro a' hp;(try simp only [fr] at hp);subst hp;intro w' hS;(try simp only [sE] at hS)) | (go_at_call 125;refine (has_ok G.has m (by omega) (by omega) _).mono ?_;rw [hb];rintro _ w' ⟨rfl,rfl⟩))
     (refine wp_region_quiet_tail 8 (by kernel_rfl) (by kernel_rfl) (St.drew1 hS) ?_;simp only [List.take_succ_cons,List.take_zero,List.drop_succ_cons,List.drop_zero];clear hS;(repeat ((go_big_quiet_want;(first | ((with_reducible refine gqM ?_);refine quiet_mv rfl rfl ?_;intro a' hp;(try simp only [fr] at hp);subst hp) | ((with_reducible refine gqL ?_);(refine quiet_ln rfl rfl ?_);refine ⟨_,zd,?_⟩;intro a' hp;(try simp only [fr] at hp);subst hp) | ((with_reducible refine gqV ?_);refine quiet_con ?_;refine ⟨_,_,by (intro _;go_simp;exact ⟨rfl,rfl⟩),?_⟩;refine ⟨_,by (intro w' hS;(exact hwid _)),?_⟩;intro a' hp;(try simp only [fr] at hp);subst hp) | (refine quiet_pure ?_;refine ⟨_,zp,?_⟩;intro a' hp;(try simp only [fr] at hp);subst hp));go_big_quiet_on)));refine wpQuiet_nil ?_;(try clear w');intro w' hS)
     go_wp2_with (((with_reducible refine gS ?_);refine qsall hS rfl rfl rfl ?_);refine ⟨_,zd,?_⟩;clear hS;(try clear w');intro a' hp;(try simp only [fr] at hp);subst hp;intro w' hS;(try simp only [sE] at hS))
     go_roundw
     case rel=>exact ⟨m+1,by omega,by rw [HR.out];rfl,by go_num,by rw [HR.out];exact hS⟩
     case measure=>simp only [intOf];omega
  ·obtain rfl:m=41:=by omega
   go_wp2_with (fail)
   have hc4:=h4.cell hS.view
   have hr5:=range_at (o:=0) (n:=2) (vs:=[.int .i64 ((foundTo G 41).getD (0,0)).1,.int .i64 ((foundTo G 41).getD (0,0)).2]) (hS.has1 (b:=b5)) rfl
   refine reach_region ?_
   show ReachI Tryd.prog sendOps [2] _ [0,1,2] _ _
   refine reachI_op rfl rfl (run_load1 rfl rfl OneT.ok hc4) ?_
   refine reachI_op rfl rfl (run_loadn (n:=2) rfl rfl RowT.ok rfl hr5) ?_
   exact reachI_here ⟨rfl,rfl,rfl,hS.toKp⟩
end Go.Proofs.YtjjmefieegcddaaDoor
