/- A part of the proof: W61, W66, X1, W71, W72, W73, S21, S22, S23. -/
import Derived.Test.YtjjmefieegcddaaDoorA28
import Derived.Test.YtjjmefieegcddaaDoorA21
import Derived.Test.YtjjmefieegcddaaDoorRows
import Derived.Test.YtjjmefieegcddaaDoorA11
import Derived.Test.YtjjmefieegcddaaDoorA20
import Derived.ChangeSame
import Derived.ChangeVars
import Derived.JoinedOf
import Derived.RowKit
import Derived.RowKitTokens
import Derived.LaidLaws
import Derived.LaidHandle
import Derived.Stop.Joined
import Derived.Conc.LeavingOf
import Derived.Carry
import Derived.SevenTiedAt
import Derived.Test.YtjjmefieegcddaaDoorA19
set_option linter.unusedVariables false
set_option linter.unusedSimpArgs false
namespace Go.Proofs.YtjjmefieegcddaaDoor
open Go.RowKit Go.Wg Go.Mm Go.Wk
open Go Go.Sr Go.Ph Go.Tm Go.Conc
variable {w:World} {V:View}
set_option maxRecDepth 20000 in
set_option maxHeartbeats 2000000 in
theorem Knots_bad (vv rv:Value) (k:Wk) (hk:WkIn V vv rv k) (hV:V.In w) (hb:¬ beginE k []=0) :
  Calls Tryd.prog 34 #[.agg #[vv,rv]] w fun r w'=>∃ v,r=.returned (.tuple #[v,.int .i64 (knotsE k).2])∧Kp w w'∧OwnInts w w' v (knotsE k).1:=by
 have hk0:=hk
 obtain ⟨va,vcap,rfl,hvc,hvm,hve⟩:=hk0.ves.is
 obtain ⟨ra,rcap,rfl,hrc,hrm,hre⟩:=hk0.rdg.is
 have hS:=(St.start w V hV).nilRow 3 1
 clear hk0 hve hre
 have hC:knotsE k=([],beginE k []):=by unfold knotsE;rw [if_neg hb]
 rw [hC]
 simp only
 have hb':(beginE k [] == 0)=false:=by rw [beq_eq_false_iff_ne];exact hb
 have hE:Go.RowKit.Hid (∃ e,beginE k []=e):=mkHid ⟨_,rfl⟩
 obtain ⟨e,he⟩:=hE.out
 rw [he] at hb' ⊢
 replace hC:=mkHid hC;replace he:=mkHid he
 go_enter Tryd.func34,Tryd.ntmps34
 go_wp2_with (first | (first | (((with_reducible refine gL ?_);refine qln hS rfl rfl rfl ?_);refine ⟨_,zd,?_⟩;clear hS;(try clear w');intro a' hp;(try simp only [fr] at hp);subst hp;intro w' hS;(try simp only [sE] at hS)) | (((with_reducible refine gB ?_);refine qbox hS rfl rfl rfl ?_;refine ⟨_,za,?_⟩);clear hS;(try clear w');intro _;intro a' hp;(try simp only [fr] at hp);subst hp;intro w' hS)) |
  (go_at_call 77;refine calls_begin_bad hS hk nilSl (by simp) hb ?_;rw [he.out];clear hS;(try clear w');intro w' hS))
 ((try simp only [Exit.inBlock,Exit.then]);(try refine bodyPost_norm ?_);refine ret_by ⟨_,by exact results2 (r1:=.tmp 2) (r2:=.tmp 3) (by kernel_rfl) (by exact rs_tmp rfl) (by exact rs_tmp rfl),?_⟩ rfl)
 exact ⟨_,rfl,hS.toKp,own_of hS (l:=[]) (j:=1) rfl⟩
set_option maxHeartbeats 1000000 in
theorem Knots_ok (vv rv:Value) (k:Wk) (hk:WkIn V vv rv k) (hG:GV V) (hV:V.In w) :
  Calls Tryd.prog 34 #[.agg #[vv,rv]] w fun r w'=>∃ v,r=.returned (.tuple #[v,.int .i64 (knotsE k).2])∧Kp w w'∧OwnInts w w' v (knotsE k).1:=by
 by_cases hb:beginE k []=0
 ·have hok:=beginE_check hb
  have hC:knotsE k=(knotsTo k (up k (nowS k noneB)) k.n,0):=by unfold knotsE;rw [if_pos hb]
  rw [hC]
  simp only
  refine calls_of_rch (k0:=[]) Tryd.func34 (show Tryd.f34.body=some B34 from rfl) ?_
  have e88:Tryd.f34.ntmps - (#[.agg #[vv,rv]]:Array Value).size=88:=by kernel_rfl
  rw [e88]
  refine Rch.mono (S:=KE w k (up k (nowS k noneB))) ?_ ?_
  ·refine (knot_start vv rv k hk hG hV hb).bind ?_
   rintro a w1 ⟨V3,p,g,cap,lb,b7,kb,ts,vv',rv',⟨f,rfl⟩,hcel,hlb,hb7,hsr,hsl,hcap,hK⟩
   exact knot_loop hcel hok (upAt_len k _ k.n) hlb hb7 hsr hsl hcap (fun V' ds w f hK=>knot_end hok f hb7 hK) k.sources.length 0 (Nat.zero_add _) V3 [] w1 f hK
  ·rintro a w1 ⟨V4,ds,v,h1,h2,h3,h4,h5,h6⟩
   have hsh:=st_shut h6 (ds:=ds) fun d hd=>⟨(h3 d hd).1,by rw [(h3 d hd).2];exact fun h=>nomatch h⟩
   have g:∀ {j:Nat} {u:Value},a.tmps[j]? = some u→a.tmps.getD j undef=u:=fun h=>by
    rw [Array.getD_eq_getD_getElem?,h]
    rfl
   refine ⟨ds,.tuple #[v,.int .i64 0],h1,h2,fun d hd=>h6.view d _ (h3 d hd).2,?_,v,rfl,hsh.toKp,own_of hsh (j:=0) rfl⟩
   exact results2 (r1:=.tmp 2) (r2:=.tmp 3) (by kernel_rfl) (res_tmp (g h4)) (res_tmp (g h5))
 ·exact Knots_bad vv rv k hk hV hb
end Go.Proofs.YtjjmefieegcddaaDoor
namespace Go.Proofs.YtjjmefieegcddaaDoor
open Go.RowKit Go.Wg Go.Mm
variable {w:World} {V:View}
abbrev VI (V:View) (v:Value) (l:List Int):Prop:=VSl V v l.length 1 fun j=>[.int .i64 (l.getD j 0)]
theorem list_eq_of {l1 l2:List Int} (h:l1.length=l2.length) (h2:∀ j,j < l1.length→l1.getD j 0=l2.getD j 0):l1=l2:=by
 refine List.ext_getElem h fun j h3 h4=>?_
 have:=h2 j h3
 simpa [List.getD_eq_getElem?_getD,List.getElem?_eq_getElem h3,List.getElem?_eq_getElem h4] using this
set_option maxRecDepth 20000 in
set_option maxHeartbeats 4000000 in
theorem EqInts_ok (l1 l2:List Int) (a b:Value) (ha:VI V a l1) (hb:VI V b l2) (n1:l1.length≤100) (n2:l2.length≤100) (hV:V.In w) :
  Calls Tryd.prog 31 #[a,b] w fun e w'=>e=.returned (.bool (decide (l1=l2)))∧Kp w w':=by
 obtain ⟨aa,acap,rfl,hac,ham,hae⟩:=ha.is
 obtain ⟨ba,bcap,rfl,hbc,hbm,hbe⟩:=hb.is
 have hS:=St.start w V hV
 clear ha hb
 go_enter Tryd.func31,Tryd.ntmps31
 go_wp2_with (fail)
 go_loopw [5] (fun iv wr=>∃ i:Nat,i≤l1.length∧i≤l2.length∧iv=.int .i64 (i:Int)∧(∀ j,j < i→l1.getD j 0=l2.getD j 0)∧St w [] V [] wr) (fun iv _=>l1.length - (intOf iv).toNat)
 case atStart=>exact ⟨0,by omega,by omega,rfl,(fun j hj=>absurd hj (by omega)),hS⟩
 case round =>
  clear hS
  obtain ⟨i,hi1,hi2,rfl,hall,hS⟩:=hrel
  have h0:(0:Int)≤i:=by omega
  by_cases h1:i < l1.length
  ·have h1':(i:Int) < l1.length:=by omega
   by_cases h2:i < l2.length
   ·have h2':(i:Int) < l2.length:=by omega
    obtain ⟨ag,ao,rfl,har⟩:=hae (by omega)
    obtain ⟨bg,bo,rfl,hbr⟩:=hbe (by omega)
    have hca:=har i h1 0 _ rfl
    have hcb:=hbr i h2 0 _ rfl
    simp only [Nat.mul_one,Nat.add_zero] at hca hcb
    have hnx:l1.getD i 0=l2.getD i 0→∀ j,j < i+1→l1.getD j 0=l2.getD j 0:=fun h j hj=>by
     rcases Nat.lt_succ_iff_lt_or_eq.1 hj with hj | rfl
     ·exact hall j hj
     ·exact h
    have hne:l1.getD i 0≠l2.getD i 0→decide (l1=l2)=false:=fun h=>decide_eq_false fun he=>h (by rw [he])
    generalize hx:l1.getD i 0=x at hca hnx hne
    generalize hy:l2.getD i 0=y at hcb hnx hne
    replace hx:=mkHid hx;replace hy:=mkHid hy
    clear hae hbe har hbr
    by_cases he:x=y
    ·subst he
     have hnx':=hnx rfl
     replace hnx':=mkHid hnx'
     clear hall hnx hne
     go_wp2_with (fail)
     (refine held_start (S:=(St w [] V [])) [false,false,false,false,false,false,false,false,false] rfl (by kernel_rfl) ?_;replace hS:=St.drew1 hS;(iterate 9 ((first | refine hxm 0 rfl ?_ | refine hxm 1 rfl ?_ | refine hxp 2 rfl ?_ | refine hxc 3 rfl ?_ | refine hxm 4 rfl ?_ | refine hxm 5 rfl ?_ | refine hxp 6 rfl ?_ | refine hxc 7 rfl ?_ | refine hxp 8 rfl ?_);intro a' l' hp hl;(try simp only [fr] at hp);(try simp only [sB] at hl);subst hp;subst hl));refine wpAnyH_done (by kernel_rfl) ?_ _)
     go_wp2_with (fail)
     go_roundw
     case rel=>exact ⟨i+1,by omega,by omega,by go_num,hnx'.out,hS⟩
     case measure=>simp only [intOf];omega
    ·have hf:=hne he
     have hxy:(x != y)=true:=by simpa using he
     replace hf:=mkHid hf
     clear hall hnx hne
     go_wp2_with (fail)
     (refine held_start (S:=(St w [] V [])) [false,false,false,false,false,false,false,false,false] rfl (by kernel_rfl) ?_;replace hS:=St.drew1 hS;(iterate 9 ((first | refine hxm 0 rfl ?_ | refine hxm 1 rfl ?_ | refine hxp 2 rfl ?_ | refine hxc 3 rfl ?_ | refine hxm 4 rfl ?_ | refine hxm 5 rfl ?_ | refine hxp 6 rfl ?_ | refine hxc 7 rfl ?_ | refine hxp 8 rfl ?_);intro a' l' hp hl;(try simp only [fr] at hp);(try simp only [sB] at hl);subst hp;subst hl));refine wpAnyH_done (by kernel_rfl) ?_ _)
     go_wp2_with (fail)
     ((try simp only [Exit.inBlock,Exit.then]);(try refine bodyPost_norm ?_);refine ret_by ⟨_,by exact results1 (r1:=.tmp 4) (by kernel_rfl) (by exact rs_tmp rfl),?_⟩ rfl)
     exact ⟨by rw [hf.out],hS.toKp⟩
   ·obtain rfl:i=l2.length:=by omega
    have hf:decide (l1=l2)=false:=decide_eq_false fun he=>by rw [he] at h1;omega
    have hl:((l1.length:Int) == (l2.length:Int))=false:=by rw [beq_eq_false_iff_ne];omega
    have hl':¬ ((l1.length:Int)=(l2.length:Int)):=by omega
    replace hf:=mkHid hf
    clear hall hae hbe
    go_wp2_with (fail)
    ((try simp only [Exit.inBlock,Exit.then]);(try refine bodyPost_norm ?_);refine ret_by ⟨_,by exact results1 (r1:=.tmp 4) (by kernel_rfl) (by exact rs_tmp rfl),?_⟩ rfl)
    exact ⟨by rw [hf.out];try simp [hl'],hS.toKp⟩
  ·obtain rfl:i=l1.length:=by omega
   by_cases he:l1.length=l2.length
   ·have hf:decide (l1=l2)=true:=decide_eq_true (list_eq_of he hall)
    have hl':(l1.length:Int)=(l2.length:Int):=by omega
    replace hf:=mkHid hf
    clear hall hae hbe
    go_wp2_with (fail)
    ((try simp only [Exit.inBlock,Exit.then]);(try refine bodyPost_norm ?_);refine ret_by ⟨_,by exact results1 (r1:=.tmp 4) (by kernel_rfl) (by exact rs_tmp rfl),?_⟩ rfl)
    exact ⟨by rw [hf.out];try simp [hl'],hS.toKp⟩
   ·have hf:decide (l1=l2)=false:=decide_eq_false fun h=>he (by rw [h])
    have hl':¬ ((l1.length:Int)=(l2.length:Int)):=by omega
    replace hf:=mkHid hf
    clear hall hae hbe
    go_wp2_with (fail)
    ((try simp only [Exit.inBlock,Exit.then]);(try refine bodyPost_norm ?_);refine ret_by ⟨_,by exact results1 (r1:=.tmp 4) (by kernel_rfl) (by exact rs_tmp rfl),?_⟩ rfl)
    exact ⟨by rw [hf.out];try simp [hl'],hS.toKp⟩
theorem own_view {w0 w w':World} {X:List Nat} {L:List Ent} {v:Value} {l:List Int} (hS:St w0 X V L w) (hk:Kp w w') (ho:OwnInts w w' v l):∃ V',(∀ j o,V j=some o→V' j=some o)∧St w0 X V' L w'∧VI V' v l:=by
 have hS':=hS.kp hk
 obtain ⟨⟨hl,h⟩,hnew⟩:=ho
 rcases h with ⟨rfl,hn⟩ | ⟨g,cap,cur,rfl,_,hg,h1,h2,h3,h4⟩
 ·exact ⟨V,fun _ _ h=>h,hS',⟨⟨none,0,by rw [hn],by omega,by decide,fun h=>by omega⟩⟩⟩
 ·have hgn:=hnew g rfl
  obtain ⟨hS2,hsub⟩:=st_view hS' hg (fun e he hf=>by
   have:=(hS.has e he).lt hf
   omega)
  refine ⟨Vw V g (.cells cur 3 (0,0)),hsub,hS2,⟨⟨_,cap,rfl,h1,h2,fun _=>⟨g,0,rfl,fun i hi j u hj=>?_⟩⟩⟩⟩
  cases j with
  | succ j=>simp at hj
  | zero =>
   simp at hj
   subst hj
   refine ⟨cur,3,(0,0),Vw.same _ _ _,?_⟩
   have:(cur.toList.take (l.length * 1))[i]? = some (.int .i64 (l.getD i 0)):=by
    rw [h4]
    simp [intsC,List.getD_eq_getElem?_getD,List.getElem?_eq_getElem hi]
   rw [List.getElem?_take,if_pos (by omega)] at this
   simpa using this
end Go.Proofs.YtjjmefieegcddaaDoor
namespace Go
section
variable {H:Type} {enc:TypeId × Value→H}
open Go.Conc
theorem returnsInLeavingWide_of_change_and {a:Assume} {C:Checked} {os:Os} {f:FuncId} {fn:Func} {s:ChangeSpec} {conds:List PathCond} {apart fresh handsOn again:Bool} {X:World→Array Value→Prop}
  (hX:∀ (w w':World) (args:Array Value),w.heap=w'.heap→X w args→X w' args)
  (own:ownKnob C.prog.godebug=none) (started:os.Started) (hfn:C.prog.funcs[f]? = some fn)
  (witness:∃ (w:World) (tape:Tape) (i:Input),w.os=os∧(w.forCall tape i).Shaped C.prog∧i.vars=[]∧Input.okWide C.prog (w.forCall tape i) .any w.heap.size f i ∧
   ((s.pre enc C.prog fn conds apart (w.forCall tape i).memory i.args∧X (w.forCall tape i).memory i.args)∧sizedMet enc C.prog fn (OpenSpec.ofChange s) apart (w.forCall tape i).memory i.args)∧a.holds C.prog (lone (Frame.enter C.prog f i.args .normal) [] (w.forCall tape i)))
  (runs:∀ (W:World) (base:Nat) (args:Array Value) (ds gs:List (DataW H)) (before:List MemPlace),
   (∀ (j:Nat) t v,fn.params[j]? = some t→args[j]? = some v→Value.okWide C.prog W .any base t v) →
   DataW.Whole enc C.prog fn.params.toList s.vars apart W args.toList ds gs before →
   (DataW.weightsEach C.prog (fn.params.toList ++ s.plain.varTypes C.prog) (ds ++ gs)).all (·≤reachBytes)=true→X W args →
   ∃ M last o w' t',runNT C.prog (M+1) (solo (G (Frame.enter C.prog f args .normal) []) W) #[]=(.ended o w',t')∧runN C.prog M (solo (G (Frame.enter C.prog f args .normal) []) W)=.next last ∧
    step C.prog last=.ended o w'∧Conc.Good C.prog (fun v W'=>s.post enc C.prog fn apart fresh handsOn again W args v W') last o w' t') :
  ReturnsInLeavingWide a C os f .any (fun w args=>(s.pre enc C.prog fn conds apart w args∧X w args)∧sizedMet enc C.prog fn (OpenSpec.ofChange s) apart w args) (s.post enc C.prog fn apart fresh handsOn again):=by
 refine returnsInLeavingWide_of_good own started witness ?_
 intro w tape i _ _ _ hok hpre hholds
 obtain ⟨_,_,_,fn',hfn',_,_,_,_,hval⟩:=hok
 have e:fn'=fn:=Option.some.inj (hfn'.symm.trans hfn)
 subst e
 obtain ⟨⟨⟨ds,gs,before,hw,hc⟩,hx⟩,hz⟩:=hpre
 have hw':=DataW.Whole.of_heap (w':=w.forCall tape i) (by rfl) hw
 obtain ⟨M,last,o,w',t',h1,h2,h3,h4⟩:=runs (w.forCall tape i) w.heap.size i.args ds gs before hval hw' (hz.weights hw) (hX _ _ _ (by rfl) hx)
 exact ⟨M,last,o,w',t',h1,h2,h3,h4.mono fun v hp=>ChangeSpec.post_blind hp⟩
theorem Claim7.holds_tied_goes_at (Lk:Looks) {p:Pinned} {s:OpenSpec} {c:OpenClaim} (kinds:List LaidKind) (tests:Bool) (har:Bool × String) (lk g:Bool)
  (hc:c.holds p s) (hw:c.wfByText s=true) (htie:c.laidByTextAt Lk p kinds tests)
  (hst:c.start=.entering) (hnb:c.noBlocks=false∧c.again=false) (hm:p.checked.prog.mainIs=some (har.1,har.2.toList)) (hn:(!har.1 && har.2.isEmpty && !lk)=false)
  (hl:∀ f fn,p.checked.prog.funcNamed c.func=some f→p.checked.prog.funcs[f]? = some fn→lk=p.checked.prog.looks []∧∀ (j:Nat) t,fn.params[j]? = some t→p.checked.prog.wantsStandIn t=false)
  (hg:g=c.goesBy p.checked.prog) :
  Claim7.holds p (.plain s) { stood:={ row:=c,standIns:=[],harness:=har,looks:=lk },kinds:=[],alts:=[],goes:=g,laidByText:=true,laidKinds:=kinds,laidTests:=tests,laidLooks:=Lk }:=by
 have h6:Claim7.isSixth { stood:={ row:=c,standIns:=[],harness:=har,looks:=lk },kinds:=[] }=false:=by simpa [Claim7.isSixth] using hn
 exact ⟨Claim7.tied_new_at Lk kinds tests (Claim7.new_of_sixth hc har lk hst hnb hm h6 hl) hw,(fun D hD=>(nomatch hD)),htie,(fun h=>by cases h),hg⟩
theorem facts_and {a b:Bool} (h1:a=true) (h2:b=true):(a && b)=true:=by rw [h1,h2];rfl
end
end Go
namespace Go.Proofs.YtjjmefieegcddaaDoor
open Go Go.Tm Go.Conc Go.Sr Go.ChangeShapes Go.WideShapes Go.RowKit Go.Wg Go.Mm
def cleaned (w:World):World:={ w with heap:=w.heap.map fun o=>if strange o then Tm.clean else o }
theorem cleaned_at (w:World) (i:Nat):(cleaned w).heap[i]? = (w.heap[i]?).map fun o=>if strange o then Tm.clean else o:=by
 show (w.heap.map _)[i]? = _
 rw [Array.getElem?_map]
theorem cleaned_size (w:World):(cleaned w).heap.size=w.heap.size:=by
 show (w.heap.map _).size=_
 rw [Array.size_map]
theorem alike_cleaned (w:World):Tm.Alike w (fun _=>False) w (cleaned w):=by
 refine ⟨rfl,rfl,rfl,rfl,cleaned_size w,Nat.le_refl _,fun i=>?_,fun i h=>h.elim⟩
 rw [cleaned_at]
 cases hi:w.heap[i]? with
 | none=>exact .inl ⟨rfl,fun o _ h=>by cases h⟩
 | some o =>
  by_cases ho:strange o=true
  ·exact .inr ⟨o,ho,rfl,rfl,by simp [ho]⟩
  ·refine .inl ⟨by simp [ho],fun o' hs h=>?_⟩
   cases h
   exact (ho hs).elim
theorem heapOk_cleaned (w:World):HeapOk OC (cleaned w):=by
 intro i o h
 rw [cleaned_at] at h
 obtain ⟨x,_,rfl⟩:=Option.map_eq_some_iff.1 h
 cases x <;> simp [strange,OkObj]
def seenOf (w:World):View:=fun k=>match w.heap[k]? with
 | some o=>if strange o then none else some o
 | none=>none
theorem seenOf_in (w:World):(seenOf w).In (cleaned w):=by
 intro k o h
 rw [cleaned_at]
 unfold seenOf at h
 cases hk:w.heap[k]? with
 | none=>rw [hk] at h;cases h
 | some x =>
  rw [hk] at h
  dsimp only at h
  split at h
  ·cases h
  ·next hs =>
   cases h
   simp [hs]
theorem seenOf_cell {w:World} {b i:Nat} {v:Value} (h:w.cell? ⟨b,i,none⟩=some v):(seenOf w).Cell b i v:=by
 unfold World.cell? at h
 dsimp only at h
 cases hb:w.heap[b]? with
 | none=>rw [hb] at h;cases h
 | some o =>
  rw [hb] at h
  cases o <;> first | (cases h;done) | skip
  rename_i c t fr
  exact ⟨c,t,fr,by unfold seenOf;rw [hb];rfl,h⟩
theorem kp_back {w v v1:World} (h:Tm.Alike w (fun _=>False) v v1) (k:Kp (cleaned w) v1):Kp w v:=by
 refine ⟨h.os.symm.trans k.os,h.output.symm.trans k.output,h.size0,fun i hi=>?_⟩
 have hk:=k.old i (by rw [cleaned_size];exact hi)
 rw [cleaned_at] at hk
 rcases h.obj i with ⟨e,hn⟩ | ⟨o,_,h2,h3,_⟩
 ·cases hx:w.heap[i]? with
  | none=>rw [Array.getElem?_eq_getElem hi] at hx;cases hx
  | some o =>
   rw [hx] at hk
   by_cases ho:strange o=true
   ·refine (hn o ho hx ?_).elim
    rw [hk]
    simp [ho]
   ·rw [← e,hk]
    simp [ho]
 ·rw [h2,h3]
theorem good_row {f:FuncId} {args:Array Value} {W:World} (hf:Tryd.prog.inits.idxOf? f=none)
  (h:CallsB Tryd.prog f args (cleaned W) fun r w'=>r=.returned (.bool true)∧Kp (cleaned W) w') :
  ∃ N last o w' t',runNT Tryd.prog (N+1) (solo (G (Frame.enter Tryd.prog f args .normal) []) W) #[]=(.ended o w',t')∧runN Tryd.prog N (solo (G (Frame.enter Tryd.prog f args .normal) []) W)=.next last ∧
   step Tryd.prog last=.ended o w'∧Conc.Good Tryd.prog (fun v w'=>v=.bool true∧Kp W w') last o w' t' :=
 good_lock (Post:=fun v w'=>v=.bool true∧Kp (cleaned W) w') prgOk (alike_cleaned W) (heapOk_cleaned W) (fun _ _ _ ha hp=>⟨hp.1,kp_back ha hp.2⟩)
  (good_of_callsB hf (fun _ _ _ hp=>⟨hp.1,⟨hp.2.os,hp.2.output,hp.2.size,hp.2.old⟩⟩) (h.mono fun _ _ hr=>⟨_,hr.1,rfl,hr.2⟩))
theorem ownOk:ownKnob Tryd.prog.godebug=none:=by kernel_rfl
theorem etOk:Tryd.prog.globalNamed "errors.errorType" = some 0:=by kernel_rfl
theorem rtOk:(Tryd.prog.cutTypes.find? (·.1 == "internal/reflectlite.rtype")).map (·.2)=some 187:=by kernel_rfl
theorem oneRow:((List.range 230).filter fun t=>Tryd.prog.rowNamed t [101,114,114,111,114])=[155]:=by kernel_rfl
theorem sizeOk:Tryd.prog.types.size=230:=by kernel_rfl
theorem gNOk:Wg.gN=1:=by
 show Tryd.prog.globals.size=1
 kernel_rfl
abbrev laidL:List (String × DataW Unit):=[("errors.errorType", Rows.laid_errors_errorType)]
theorem handle_of_laid {W:World} (h:laidMetH Tryd.prog laidL W):W.cell? ⟨0,0,none⟩=some errT:=by
 have h':laidMet Tryd.prog [] W∧handlesMet Tryd.prog laidL W:=h
 obtain ⟨name,u,ty,e1,e2,e3,e4,e5⟩:=h'.2 _ (List.mem_singleton.2 rfl)
 have en:name=[101,114,114,111,114]:=(Option.some.inj e1).symm
 subst en
 obtain rfl:=Option.some.inj (rtOk.symm.trans e2)
 have hm:ty∈(List.range 230).filter fun t=>Tryd.prog.rowNamed t [101,114,114,111,114]:=List.mem_filter.2 ⟨List.mem_range.2 (by rw [← sizeOk];exact e3),e4⟩
 rw [oneRow] at hm
 obtain rfl:=List.mem_singleton.1 hm
 have hh:typeHandle Tryd.prog 155=.pointer (some ⟨1,155,none⟩):=by kernel_rfl
 rw [hh] at e5
 simpa using World.var?_cell etOk e5 0
theorem bs_of_laid {W:World} (h:laidMetH Tryd.prog laidL W):Bs (seenOf W)∧Wg.gN≤(cleaned W).heap.size:=by
 have hc:=seenOf_cell (handle_of_laid h)
 obtain ⟨c,t,fr,h1,h2⟩:=hc
 refine ⟨⟨⟨c,t,fr,h1,h2⟩,⟨_,by rw [gNOk];exact h1⟩⟩,?_⟩
 rw [gNOk]
 have:=seenOf_in W 0 _ h1
 exact (Array.getElem?_eq_some_iff.1 this).1
noncomputable def laidWorld (os:Os):World :=
 let w0:=World.holding Tryd.prog os ⟨#[],#[],[]⟩
 { w0 with heap:=w0.heap.modify 0 fun
   | .cells _ t frozen=>.cells #[errT] t frozen
   | o=>o }
theorem laidWorld_met (os:Os) (args:Array Value):laidMetH Tryd.prog laidL ((laidWorld os).forCall (fun _ _=>0) ⟨#[],args,[]⟩).memory :=
 laidMetH_of_parts (laidMet_nil _ _) (by kernel_rfl)
theorem laidOutOk:laidOutB Tryd.prog=true:=by kernel_rfl
section
variable {H:Type} {enc:TypeId × Value→H} {W W':World}
theorem below_of_kp (k:Kp W W'):Below W.heap.size W { W' with tape:=W.tape }:=⟨k.os,rfl,k.output,k.size,k.old⟩
theorem trodAll_kp (k:Kp W W'):∀ {ts:List TypeId} {vs:List Value} {ds:List (DataW H)} {ps:List MemPlace},DataW.TrodAll enc Tryd.prog W 0 (fun _=>true) true ts vs ds ps →
  (∀ t∈ts,Tryd.prog.readableRec t=true∧t < Tryd.prog.types.size)→(∀ x∈ps,x.block < W.heap.size)→DataW.TrodAll enc Tryd.prog W' 0 (fun b=>decide (b < W.heap.size)) true ts vs ds ps
 | [],vs,ds,ps,h,_,_=>by
  obtain ⟨rfl,rfl,rfl⟩:=trodAll_nil h
  exact trodAll_mk0
 | t :: ts,vs,ds,ps,h,ht,hp=>by
  obtain ⟨v,vs',d,ds',p,p',rfl,rfl,rfl,h1,h2⟩:=trodAll_cons h
  have hb:=below_of_kp k
  have:=Below.trod laidOutOk (ht t (by simp)).1 (ht t (by simp)).2 h1 hb (fun x hx=>hp x (by simp [hx]))
  exact ⟨p,p',DataW.Trod.of_heap (w:={ W' with tape:=W.tape }) (w':=W') rfl this,trodAll_kp k h2 (fun t ht'=>ht t (by simp [ht'])) fun x hx=>hp x (by simp [hx]),rfl⟩
theorem post_kp {s:ChangeSpec} {fn:Func} {args:Array Value} {ds:List (DataW H)} {before:List MemPlace} (hr:fn.resultTypes=#[4]) (hts:∀ t∈fn.params.toList,Tryd.prog.readableRec t=true∧t < Tryd.prog.types.size) (hs:s.vars=[])
  (hW:DataW.Whole enc Tryd.prog fn.params.toList s.vars false W args.toList ds [] before) (hk:Kp W W') (e:s.fn H ds={ results:=[.lit (.bool true)],args:=ds }):s.post enc Tryd.prog fn false true false false W args (.bool true) W':=by
 have hW0:=hW
 obtain ⟨p,q,hA,hV,rfl,_,_⟩:=hW
 have hlt:∀ x∈p,x.block < W.heap.size:=fun x hx=>hA.lt x hx
 have hb:=below_of_kp hk
 have hkb:∀ may,W.keptBut W' may:=fun may=>by
  have h:=hb.frame may
  unfold World.keptBut at h ⊢
  exact h
 have e':s.fn H (ds ++ [])={ results:=[.lit (.bool true)],args:=ds }:=by rw [List.append_nil];exact e
 refine ⟨ds,[],_,[],p,[],hW0,?_,?_,?_,hkb _,fun h=>by cases h⟩
 ·rw [e',hr]
  exact trodAll_mk1 (shut_bool Tryd.underlying4 true)
 ·rw [e']
  exact trodAll_kp hk hA hts hlt
 ·rw [e',hs]
  rfl
end
theorem vi_of_trod {H:Type} {enc:TypeId × Value→H} {W:World} {a0:Option Addr} {len cap:Nat} {d:DataW H} {p:List MemPlace} (h:DataW.Trod enc Tryd.prog W 0 (fun _=>true) true 30 (.slice a0 len cap) d p) :
  ∃ l:List Int,VI (seenOf W) (.slice a0 len cap) l:=by
 obtain ⟨fuel,hf⟩:=h
 rcases open_ints Tryd.underlying30 Tryd.underlying3 (show Tryd.prog.cellsOf 3=1 by kernel_rfl) hf with ⟨hcs,_⟩ | ⟨a,len',cap',zs,hcs,_,hl,hm,hz,_,hcell,_⟩
 ·simp [Value.cells] at hcs
  obtain ⟨rfl,rfl,rfl⟩:=hcs
  exact ⟨[],⟨⟨none,0,rfl,Nat.le_refl _,Nat.zero_le _,fun h=>absurd h (Nat.lt_irrefl _)⟩⟩⟩
 ·simp [Value.cells] at hcs
  obtain ⟨rfl,rfl,rfl⟩:=hcs
  simp only [if_true] at hz
  have hlen:(zs.take len).length=len:=by rw [List.length_take];omega
  refine ⟨zs.take len,⟨⟨some a,cap,by rw [hlen],by rw [hlen];exact hl,hm,fun hpos=>?_⟩⟩⟩
  rw [hlen] at hpos
  have hc0:=hcell 0 (by omega)
  obtain ⟨g,off,spot⟩:=a
  have hsp:spot=none:=by
   cases spot with
   | none=>rfl
   | some s =>
    unfold World.cell? at hc0
    simp only [Addr.add] at hc0
    split at hc0 <;> simp at hc0
  subst hsp
  refine ⟨g,off,rfl,fun i hi=>?_⟩
  rw [hlen] at hi
  intro j v hj
  have hj0:j=0:=by
   rcases j with _ | j
   ·rfl
   ·simp at hj
  subst hj0
  simp only [List.getElem?_cons_zero,Option.some.injEq] at hj
  subst hj
  have:=hcell i (by omega)
  have e:(zs.take len).getD i 0=zs.getD i 0:=by
   simp [List.getD_eq_getElem?_getD,List.getElem?_take,hi]
  rw [e]
  have e2:(⟨g,off,none⟩:Addr).add i=⟨g,off+i,none⟩:=by
   unfold Addr.add
   split <;> simp_all
  rw [e2] at this
  simpa using seenOf_cell this
end Go.Proofs.YtjjmefieegcddaaDoor
namespace Go.Proofs.YtjjmefieegcddaaDoor
open Go.RowKit Go.Wg Go.Mm
end Go.Proofs.YtjjmefieegcddaaDoor
namespace Go.Proofs.YtjjmefieegcddaaDoor
open Go.RowKit Go.Wg Go.Mm
variable {w:World} {V:View}
end Go.Proofs.YtjjmefieegcddaaDoor
namespace Go.Proofs.YtjjmefieegcddaaDoor
open Go.RowKit Go.Wg Go.Mm
variable {w:World} {V:View}
end Go.Proofs.YtjjmefieegcddaaDoor
namespace Go.Wg
open Go Go.Mm
theorem sum_one (n:Nat) (f g:Nat→Int) (i:Nat) (hi:i < n) (h:∀ j,j≠i→f j=g j):((List.range n).map g).sum=((List.range n).map f).sum+(g i - f i):=by
 induction n with
 | zero=>omega
 | succ n ih =>
  rw [List.range_succ,List.map_append,List.map_append,List.sum_append,List.sum_append]
  simp only [List.map_cons,List.map_nil,List.sum_cons,List.sum_nil]
  by_cases e:i=n
  ·subst e
   have:(List.range i).map g=(List.range i).map f:=List.map_congr_left fun j hj=>(h j (by have:=List.mem_range.1 hj;omega)).symm
   rw [this]
   omega
  ·rw [ih (by omega),h n (fun e'=>e e'.symm)]
   omega
theorem sum_bound (n:Nat) (f:Nat→Int) (c:Int) (h:∀ j,j < n→0≤f j∧f j≤c):0≤((List.range n).map f).sum∧((List.range n).map f).sum≤c * n:=by
 induction n with
 | zero=>simp
 | succ n ih =>
  rw [List.range_succ,List.map_append,List.sum_append]
  simp only [List.map_cons,List.map_nil,List.sum_cons,List.sum_nil]
  have h1:=ih fun j hj=>h j (by omega)
  have h2:=h n (by omega)
  have:c * ((n+1:Nat):Int)=c * n+c:=by rw [Int.natCast_add,Int.mul_add];omega
  omega
def sumF (fr:Nat→Int) (n:Nat) (ws:List Int) (j:Nat):Int:=((List.range n).map fun k=>if fr k=(j:Int) then ws.getD k 0 else 0).sum
theorem getD_set {α:Type} (l:List α) (i j:Nat) (x d:α) (hi:i < l.length):(l.set i x).getD j d=if i=j then x else l.getD j d:=by
 rw [List.getD_eq_getElem?_getD,List.getElem?_set]
 by_cases e:i=j
 ·subst e
  simp [hi]
 ·rw [if_neg e,if_neg e,List.getD_eq_getElem?_getD]
theorem sumF_set (fr:Nat→Int) (n:Nat) (ws:List Int) (hl:ws.length=n) (i:Nat) (hi:i < n) (x:Int) (j:Nat):sumF fr n (ws.set i x) j=sumF fr n ws j+if fr i=(j:Int) then x - ws.getD i 0 else 0:=by
 unfold sumF
 rw [sum_one n (fun k=>if fr k=(j:Int) then ws.getD k 0 else 0) (fun k=>if fr k=(j:Int) then (ws.set i x).getD k 0 else 0) i hi]
 ·have h1:(ws.set i x).getD i 0=x:=by rw [getD_set _ _ _ _ _ (hl ▸ hi),if_pos rfl]
  rw [h1]
  by_cases e:fr i=(j:Int)
  ·simp only [if_pos e]
  ·simp only [if_neg e];omega
 ·intro k hk
  simp only [getD_set _ _ _ _ _ (hl ▸ hi),if_neg (Ne.symm hk)]
structure Truth (k:Wk) (ws:List Int):Prop where
 len:ws.length=k.n
 room:∀ i,i < k.n→0≤ws.getD i 0∧ws.getD i 0≤(k.v i).room
 loss:∀ i,i < k.n→(∃ j,j < k.n∧(k.v j).from_=(i:Int))→(k.v i).lo≤ws.getD i 0 - sumF (fun j=>(k.v j).from_) k.n ws i∧ws.getD i 0 - sumF (fun j=>(k.v j).from_) k.n ws i≤(k.v i).hi
 rdg:∀ r∈k.rdg,r.shown - r.err≤ws.getD r.vessel.toNat 0∧ws.getD r.vessel.toNat 0≤r.shown+r.err
structure Melting (l:List Ves) (ws ss:List Int) (n m:Nat):Prop where
 ll:l.length=n
 wl:ws.length=n
 sl:ss.length=n
 fr:∀ j,j < n→-1≤(l.getD j default).from_∧(l.getD j default).from_ < j
 zero:∀ j,j < m→ws.getD j 0=0
 sums:∀ j,j < m→ss.getD j 0=sumF (fun k=>(l.getD k default).from_) n ws j
 ok:∀ j,m≤j→j < n→(l.getD j default).Ok j∧0≤ws.getD j 0∧ws.getD j 0≤(l.getD j default).room
 loss:∀ j,m≤j→j < n→(∃ k,k < n∧(l.getD k default).from_=(j:Int))→(l.getD j default).lo≤ws.getD j 0 - sumF (fun k=>(l.getD k default).from_) n ws j∧ws.getD j 0 - sumF (fun k=>(l.getD k default).from_) n ws j≤(l.getD j default).hi
theorem Melting.bound {l:List Ves} {ws ss:List Int} {n m:Nat} (h:Melting l ws ss n m) (hn:n≤6) (hm:m≤n) {j:Nat} (hj:j < m):0≤ss.getD j 0∧ss.getD j 0≤240:=by
 have hb:=sum_bound n (fun k=>if (l.getD k default).from_=(j:Int) then ws.getD k 0 else 0) 40 fun k hk=>by
  have h1:0≤ws.getD k 0∧ws.getD k 0≤40:=by
   rcases Nat.lt_or_ge k m with hk2 | hk2
   ·rw [h.zero k hk2];decide
   ·obtain ⟨⟨_,_,_,o4,_⟩,o2,o3⟩:=h.ok k hk2 hk
    omega
  by_cases e:(l.getD k default).from_=(j:Int)
  ·simp only [e,if_true];exact h1
  ·simp only [e,if_false];decide
 have e:sumF (fun k=>(l.getD k default).from_) n ws j=((List.range n).map fun k=>if (l.getD k default).from_=(j:Int) then ws.getD k 0 else 0).sum:=rfl
 rw [h.sums j hj,e]
 have:(40:Int) * n≤240:=by omega
 omega
theorem melting_start (l:List Ves) (n:Nat) (hl:l.length=n) (hf:∀ j,j < n→-1≤(l.getD j default).from_∧(l.getD j default).from_ < j):Melting l (List.replicate n 0) (List.replicate n 0) n n:=by
 have hz:∀ j,(List.replicate n (0:Int)).getD j 0=0:=fun j=>by
  rw [List.getD_eq_getElem?_getD,List.getElem?_replicate]
  split <;> rfl
 refine ⟨hl,by simp,by simp,hf,fun j _=>hz j,fun j hj=>?_,fun j h1 h2=>absurd h2 (by omega),fun j h1 h2=>absurd h2 (by omega)⟩
 rw [hz]
 unfold sumF
 have:(List.range n).map (fun k=>if (l.getD k default).from_=(j:Int) then (List.replicate n (0:Int)).getD k 0 else 0)=(List.range n).map fun _=>(0:Int):=List.map_congr_left fun k _=>by
  split
  ·exact hz k
  ·rfl
 rw [this]
 clear this
 induction n with
 | zero=>rfl
 | succ n ih =>
  rw [List.range_succ,List.map_append,List.sum_append]
  have:((List.range n).map fun _=>(0:Int)).sum=0:=by
   clear ih hl hf hz hj
   induction n with
   | zero=>rfl
   | succ n ih=>rw [List.range_succ,List.map_append,List.sum_append,ih];rfl
  rw [this]
  rfl
theorem Melting.step {l:List Ves} {ws ss ss':List Int} {n i:Nat} (h:Melting l ws ss n (i+1)) (hi:i < n) {s wt x y z:Int}
  (hs:(∃ k,k < n∧(l.getD k default).from_=(i:Int))→s=ss.getD i 0) (hwt:wt≤40) (hw0:0≤wt) (hlost:0≤wt - s) (hlost2:wt - s≤4) (hx:0≤x) (hy:0≤y) (hy2:y≤4) (hz:0≤z)
  (hsl:ss'.length=n) (hss:∀ j,j < i→ss'.getD j 0=ss.getD j 0+if (l.getD i default).from_=(j:Int) then wt else 0) :
  Melting (l.set i ⟨(l.getD i default).from_,min 40 (wt+z),max 0 (wt - s - x),wt - s+y⟩) (ws.set i wt) ss' n i:=by
 have hl:=h.ll
 have hwl:=h.wl
 have g1:∀ j,(l.set i ⟨(l.getD i default).from_,min 40 (wt+z),max 0 (wt - s - x),wt - s+y⟩).getD j default=if i=j then ⟨(l.getD i default).from_,min 40 (wt+z),max 0 (wt - s - x),wt - s+y⟩ else l.getD j default:=fun j=>getD_set _ _ _ _ _ (by omega)
 have g2:∀ j,(ws.set i wt).getD j 0=if i=j then wt else ws.getD j 0:=fun j=>getD_set _ _ _ _ _ (by omega)
 have gf:(fun k=>((l.set i ⟨(l.getD i default).from_,min 40 (wt+z),max 0 (wt - s - x),wt - s+y⟩).getD k default).from_)=fun k=>(l.getD k default).from_:=by
  funext k
  rw [g1]
  split
  ·next e=>subst e;rfl
  ·rfl
 have hsum:∀ j,sumF (fun k=>(l.getD k default).from_) n (ws.set i wt) j=sumF (fun k=>(l.getD k default).from_) n ws j+if (l.getD i default).from_=(j:Int) then wt else 0:=fun j=>by
  rw [sumF_set _ n ws hwl i hi wt j,h.zero i (by omega)]
  simp
 have hfi:=h.fr i hi
 refine ⟨by simp [hl],by simp [hwl],hsl,fun j hj=>?_,fun j hj=>?_,fun j hj=>?_,fun j h1 h2=>?_,fun j h1 h2 h3=>?_⟩
 ·have:=congrFun gf j
  rw [this]
  exact h.fr j hj
 ·rw [g2,if_neg (by omega)]
  exact h.zero j (by omega)
 ·rw [gf,hsum,hss j hj,h.sums j (by omega)]
 ·rw [g1,g2]
  by_cases e:i=j
  ·subst e
   rw [if_pos rfl,if_pos rfl]
   refine ⟨⟨hfi.1,hfi.2,?_,?_,?_,?_,?_,?_,?_⟩,?_,?_⟩ <;> (try simp only) <;> omega
  ·rw [if_neg e,if_neg e]
   exact h.ok j (by omega) h2
 ·have h3':∃ k,k < n∧(l.getD k default).from_=(j:Int):=by
   obtain ⟨k,hk,he⟩:=h3
   exact ⟨k,hk,by have:=congrFun gf k;rw [this] at he;exact he⟩
  rw [gf,hsum,g1,g2]
  by_cases e:i=j
  ·subst e
   rw [if_pos rfl,if_pos rfl,if_neg (by omega),← h.sums i (by omega),← hs h3']
   (try simp only)
   omega
  ·rw [if_neg e,if_neg e,if_neg (by omega)]
   have:=h.loss j (by omega) h2 h3'
   omega
def fillsB (fr:Nat→Int) (i:Nat):Nat→Bool
 | 0=>false
 | m+1=>fillsB fr i m || decide (fr (i+1+m)=(i:Int))
theorem fillsB_iff (fr:Nat→Int) (i n:Nat) (hi:i < n) (hf:∀ j,j < n→fr j < j):fillsB fr i (n - (i+1))=true↔∃ k,k < n∧fr k=(i:Int):=by
 have key:∀ m,fillsB fr i m=true↔∃ k,i < k∧k < i+1+m∧fr k=(i:Int):=fun m=>by
  induction m with
  | zero=>simp [fillsB];intro k h1 h2;omega
  | succ m ih =>
   rw [fillsB,Bool.or_eq_true,ih,decide_eq_true_eq]
   constructor
   ·rintro (⟨k,h1,h2,h3⟩ | h)
    ·exact ⟨k,h1,by omega,h3⟩
    ·exact ⟨i+1+m,by omega,by omega,h⟩
   ·rintro ⟨k,h1,h2,h3⟩
    by_cases e:k=i+1+m
    ·subst e;exact .inr h3
    ·exact .inl ⟨k,h1,by omega,h3⟩
 rw [key]
 constructor
 ·rintro ⟨k,h1,h2,h3⟩
  exact ⟨k,by omega,h3⟩
 ·rintro ⟨k,h1,h2⟩
  have:=hf k h1
  exact ⟨k,by omega,by omega,h2⟩
theorem Melting.done {l:List Ves} {ws ss:List Int} {n:Nat} (h:Melting l ws ss n 0) (h0:0 < n) (h6:n≤6) {rs:List Rdg} (hr:rs.length≤4)
  (hro:∀ r∈rs,r.Ok n∧r.shown - r.err≤ws.getD r.vessel.toNat 0∧ws.getD r.vessel.toNat 0≤r.shown+r.err):(⟨l,rs⟩:Wk).Ok∧Truth ⟨l,rs⟩ ws:=by
 have hn:(⟨l,rs⟩:Wk).n=n:=h.ll
 refine ⟨⟨by rw [hn];exact h0,by rw [hn];exact h6,fun i hi=>(h.ok i (by omega) (by rw [hn] at hi;exact hi)).1,by show rs.length≤6;omega,fun i hi=>?_⟩,⟨by rw [hn];exact h.wl,fun i hi=>(h.ok i (by omega) (by rw [hn] at hi;exact hi)).2,fun i hi hx=>?_,fun r hr=>(hro r hr).2⟩⟩
 ·rw [hn]
  have hi':i < rs.length:=hi
  have:(⟨l,rs⟩:Wk).rdg.getD i default=rs[i]:=by
   show rs.getD i default=_
   simp [List.getD_eq_getElem?_getD,List.getElem?_eq_getElem hi']
  rw [this]
  exact (hro _ (List.getElem_mem hi')).1
 ·rw [hn] at hi hx ⊢
  exact h.loss i (by omega) hi hx
theorem spare_ok:(⟨[⟨-1,5,0,0⟩],[]⟩:Wk).Ok∧Truth ⟨[⟨-1,5,0,0⟩],[]⟩ [0]:=by
 refine ⟨⟨by decide,by decide,fun i hi=>?_,by decide,fun i hi=>?_⟩,⟨rfl,fun i hi=>?_,fun i hi ⟨j,hj,he⟩=>?_,fun r hr=>by cases hr⟩⟩
 ·have:i=0:=by simpa [Wk.n] using hi
  subst this
  simp [Wk.v,Ves.Ok]
 ·simp at hi
 ·have:i=0:=by simpa [Wk.n] using hi
  subst this
  simp [Wk.v]
 ·have:j=0:=by simpa [Wk.n] using hj
  subst this
  simp [Wk.v] at he
end Go.Wg
namespace Go.Mm
open Go
variable {P:Program} {w0:World} {X:List Nat} {V:View} {L:List Ent} {w w':World}
theorem St.lt (h:St w0 X V L w) {e:Ent} (he:e∈L) {b:Nat} (hb:e.foot=some b):b < w.heap.size:=(h.has e he).lt hb
theorem St.free (h:St w0 X V L w) {j:Nat} (hj:w.heap.size≤j):V j=none:=by
 cases hv:V j with
 | none=>rfl
 | some o =>
  have:=lt_of_heap (h.view j o hv)
  omega
theorem St.comp (h:St w0 X V L w) {g j:Nat} {t:TypeId} {cs cs':List Value} {Lc:List Ent} {Vc:View} (hj:L[j]? = some (.blk g t cs)) (hc:St w [g] Vc (.blk g t cs' :: Lc) w') :
  St w0 X V (Lc ++ L.set j (.blk g t cs')) w':=by
 have hgw:g < w.heap.size:=h.lt (List.mem_of_getElem? hj) rfl
 have hold:∀ k,k < w.heap.size→k≠g→w'.heap[k]? = w.heap[k]?:=fun k hk hn=>hc.old k hk (by simpa using hn)
 have hnd:=hc.nd
 simp only [List.filterMap_cons,Ent.foot,List.nodup_cons] at hnd
 have hLc:∀ e∈Lc,∀ b,e.foot=some b→w.heap.size≤b:=fun e he b hb=>by
  rcases hc.new e (List.mem_cons_of_mem _ he) b hb with h1 | h1
  ·exact h1
  ·have:b=g:=by simpa using h1
   subst this
   exact absurd (List.mem_filterMap.2 ⟨e,he,hb⟩) hnd.1
 have hset:∀ e∈L.set j (.blk g t cs'),e=.blk g t cs'∨(e∈L∧∀ b,e.foot=some b→b≠g):=fun e he=>by
  obtain ⟨i,hi⟩:=List.mem_iff_getElem?.1 he
  by_cases e1:j=i
  ·subst e1
   rw [List.getElem?_set_self (List.getElem?_eq_some_iff.1 hj).1] at hi
   exact .inl (Option.some.inj hi).symm
  ·rw [List.getElem?_set_ne e1] at hi
   exact .inr ⟨List.mem_of_getElem? hi,fun b hb hbg=>by
    subst hbg
    exact foot_ne h.nd hj hi e1 rfl hb⟩
 have hLs:=Nat.le_trans h.size hc.size
 refine ⟨hc.os.trans h.os,hc.output.trans h.output,hLs,fun k hk hx=>?_,fun k o hk=>?_,fun e he=>?_,fun e he b hb=>?_,fun e he b hb=>?_,?_⟩
 ·have hkg:k≠g:=by
   rintro rfl
   rcases h.new _ (List.mem_of_getElem? hj) k rfl with h1 | h1
   ·omega
   ·exact hx h1
  rw [hold k (Nat.lt_of_lt_of_le hk h.size) hkg]
  exact h.old k hk hx
 ·have h1:=h.view k o hk
  have hkg:k≠g:=by
   rintro rfl
   have:=h.off _ (List.mem_of_getElem? hj) k rfl
   rw [this] at hk
   cases hk
  rw [hold k (lt_of_heap h1) hkg]
  exact h1
 ·rcases List.mem_append.1 he with he | he
  ·exact hc.has e (List.mem_cons_of_mem _ he)
  ·rcases hset e he with rfl | ⟨h1,h2⟩
   ·exact hc.has _ (List.mem_cons_self ..)
   ·exact (h.has e h1).of_heap fun b hb=>hold b (h.lt h1 hb) (h2 b hb)
 ·rcases List.mem_append.1 he with he | he
  ·exact .inl (Nat.le_trans h.size (hLc e he b hb))
  ·rcases hset e he with rfl | ⟨h1,_⟩
   ·exact h.new _ (List.mem_of_getElem? hj) b hb
   ·exact h.new e h1 b hb
 ·rcases List.mem_append.1 he with he | he
  ·exact h.free (hLc e he b hb)
  ·rcases hset e he with rfl | ⟨h1,_⟩
   ·exact h.off _ (List.mem_of_getElem? hj) b hb
   ·exact h.off e h1 b hb
 ·rw [List.filterMap_append,filterMap_set (f:=.blk g t cs') hj rfl,List.nodup_append]
  refine ⟨hnd.2,h.nd,fun a ha b hb hab=>?_⟩
  subst hab
  obtain ⟨e,he,hf⟩:=List.mem_filterMap.1 ha
  obtain ⟨e',he',hf'⟩:=List.mem_filterMap.1 hb
  have:=hLc e he a hf
  have:=h.lt he' hf'
  omega
theorem St.comp0 (h:St w0 X V L w) {Lc:List Ent} {Vc:View} (hc:St w [] Vc Lc w'):St w0 X V (Lc ++ L) w':=by
 have hold:∀ k,k < w.heap.size→w'.heap[k]? = w.heap[k]?:=fun k hk=>hc.old k hk (by simp)
 have hLc:∀ e∈Lc,∀ b,e.foot=some b→w.heap.size≤b:=fun e he b hb=>by
  rcases hc.new e he b hb with h1 | h1
  ·exact h1
  ·cases h1
 refine ⟨hc.os.trans h.os,hc.output.trans h.output,Nat.le_trans h.size hc.size,fun k hk hx=>?_,fun k o hk=>?_,fun e he=>?_,fun e he b hb=>?_,fun e he b hb=>?_,?_⟩
 ·rw [hold k (Nat.lt_of_lt_of_le hk h.size)]
  exact h.old k hk hx
 ·have h1:=h.view k o hk
  rw [hold k (lt_of_heap h1)]
  exact h1
 ·rcases List.mem_append.1 he with he | he
  ·exact hc.has e he
  ·exact (h.has e he).of_heap fun b hb=>hold b (h.lt he hb)
 ·rcases List.mem_append.1 he with he | he
  ·exact .inl (Nat.le_trans h.size (hLc e he b hb))
  ·exact h.new e he b hb
 ·rcases List.mem_append.1 he with he | he
  ·exact h.free (hLc e he b hb)
  ·exact h.off e he b hb
 ·rw [List.filterMap_append,List.nodup_append]
  refine ⟨hc.nd,h.nd,fun a ha b hb hab=>?_⟩
  subst hab
  obtain ⟨e,he,hf⟩:=List.mem_filterMap.1 ha
  obtain ⟨e',he',hf'⟩:=List.mem_filterMap.1 hb
  have:=hLc e he a hf
  have:=h.lt he' hf'
  omega
abbrev hatC (lv:Value) (cn st:Int):List Value:=[lv,.int .i64 cn,.int .u64 st]
structure HatK (bh:Nat) (lv:Value) (cn c:Int) (w w':World):Prop where
 kp:KpBut bh w w'
 hat:∃ cn' st',cn≤cn'∧cn'≤cn+c∧w'.heap[bh]? = some (.cells (hatC lv cn' st').toArray 90 (0,0))
theorem calls_hat {f:FuncId} {args:Array Value} {R:Ending→World→Prop} (hS:St w0 X V L w) {bh j:Nat} {lv:Value} {cn st:Int} [hj:Hs L bh j 90 (hatC lv cn st)]
  (h:∃ (c:Int) (Pr:Value→Prop),(V bh=none→w.heap[bh]? = some (.cells (hatC lv cn st).toArray 90 (0,0))→Calls P f args w fun e w'=>∃ v,e=.returned v∧Pr v∧HatK bh lv cn c w w') ∧
   ∀ v cn' st' w',Pr v→cn≤cn'→cn'≤cn+c→St w0 X V (L.set j (.blk bh 90 (hatC lv cn' st'))) w'→R (.returned v) w'):Calls P f args w R:=by
 obtain ⟨c,Pr,hc,h⟩:=h
 refine (hc (hS.off _ (List.mem_of_getElem? hj.ok) bh rfl) (hS.at hj.ok)).mono fun e w' ⟨v,he,hp,hk⟩=>?_
 subst he
 obtain ⟨cn',st',h1,h2,h3⟩:=hk.hat
 exact h v cn' st' w' hp h1 h2 (hS.mut hj.ok hk.kp h3 rfl)
theorem hatK_of {bh:Nat} {lv:Value} {cn c cn' st':Int} (hS:St w0 [bh] V L w) {j:Nat} [hj:Hs L bh j 90 (hatC lv cn' st')] (h1:cn≤cn') (h2:cn'≤cn+c):HatK bh lv cn c w0 w:=⟨hS.toKpBut,cn',st',h1,h2,hS.at hj.ok⟩
section
variable {l:List Oper} {md:Region.Mode} {o:Oper} {a:Act} {Q:Exit→Act→World→Prop} {S:World→Prop} {fuel:Nat} {listed:Array Bool} {K:Act→World→Prop} {ops:Array Oper} {i₀:Nat}
theorem wpo_enterE {f:FuncId} {args:Array Value} {R:Value→World→Prop} (hi:ops[i₀]? = some o) (hgd:Region.wanted o (yielded ops a.tmps)=true) (hr:(execOp a.eval o).run P w=.ok (.enter f args) w)
  (hc:Calls P f args w fun e w'=>∃ v,e=.returned v∧R v w') (h:∀ v w',R v w'→K (a.put o.dst v) w'):wpOp P ops Q i₀ K a w:=by
 unfold wpOp
 simp only [hi]
 rw [hgd]
 refine .inl ?_
 unfold Oper.wp
 rw [hr]
 exact hc.mono fun e w' ⟨v,he,hR⟩=>by subst he;exact h v w' hR
theorem we_hat (i:Nat) (hi₀:l[i]? = some o) (hS:St w0 X V L w) (hw:Region.wanted o (yielded l.toArray a.tmps)=true) {bh j:Nat} {lv:Value} {cn st:Int} [hj:Hs L bh j 90 (hatC lv cn st)]
  (h:∃ f args,(execOp a.eval o).run P w=.ok (.enter f args) w∧∃ (c:Int) (Pr:Value→Prop),(V bh=none→w.heap[bh]? = some (.cells (hatC lv cn st).toArray 90 (0,0))→Calls P f args w fun e w'=>∃ v,e=.returned v∧Pr v∧HatK bh lv cn c w w') ∧
   ∀ v cn' st' a' l',Pr v→cn≤cn'→cn'≤cn+c→a.put o.dst v=a'→listed.setIfInBounds i true=l'→∀ w',St w0 X V (L.set j (.blk bh 90 (hatC lv cn' st'))) w'→S w'∧wpAnyH P md l.toArray Q S fuel l' a' w') :
  wpOp P l.toArray Q i (fun a' w'=>S w'∧wpAnyH P md l.toArray Q S fuel (listed.setIfInBounds i true) a' w') a w:=by
 obtain ⟨f,args,hr,c,Pr,hc,h⟩:=h
 refine wpo_enterE (R:=fun v w'=>Pr v∧HatK bh lv cn c w w') (hi_of hi₀) hw hr (hc (hS.off _ (List.mem_of_getElem? hj.ok) bh rfl) (hS.at hj.ok)) fun v w' ⟨hp,hk⟩=>?_
 obtain ⟨cn',st',h1,h2,h3⟩:=hk.hat
 exact h v cn' st' _ _ hp h1 h2 rfl rfl w' (hS.mut hj.ok hk.kp h3 rfl)
theorem he_hat (i:Nat) (hr:Region.ready md l.toArray listed=[i]) (hi₀:l[i]? = some o) (hS:St w0 X V L w) (hw:Region.wanted o (yielded l.toArray a.tmps)=true) {bh j:Nat} {lv:Value} {cn st:Int} [hj:Hs L bh j 90 (hatC lv cn st)]
  (h:∃ f args,(execOp a.eval o).run P w=.ok (.enter f args) w∧∃ (c:Int) (Pr:Value→Prop),(V bh=none→w.heap[bh]? = some (.cells (hatC lv cn st).toArray 90 (0,0))→Calls P f args w fun e w'=>∃ v,e=.returned v∧Pr v∧HatK bh lv cn c w w') ∧
   ∀ v cn' st' a' l',Pr v→cn≤cn'→cn'≤cn+c→a.put o.dst v=a'→listed.setIfInBounds i true=l'→∀ w',St w0 X V (L.set j (.blk bh 90 (hatC lv cn' st'))) w'→S w'∧wpAnyH P md l.toArray Q S fuel l' a' w') :
  wpAnyH P md l.toArray Q S (fuel+1) listed a w:=he_one hr (we_hat i hi₀ hS hw h)
theorem ht_cell (i:Nat) (hi₀:l[i]? = some o) (hs:Region.noSelect l.toArray=true) (hf:Region.free md l.toArray listed i=true) (hr:(Region.ready md l.toArray listed).contains i=true)
  (hQ:∀ v c a w,Q (.panic c) (a.put o.dst v) w→Q (.panic c) a w) (hw:Region.wanted o (yielded l.toArray a.tmps)=true) (hS:S w)
  {ty:TypeId} {x:Operand} (ho:o.op=.load ty x) {b k:Nat} (hx:a.eval x=.pointer (some ⟨b,k,none⟩)) [hty:OneT P ty]
  (h:∃ v,(∀ w,S w→w.cell? ⟨b,k,none⟩=some v)∧∀ a' l',a.put o.dst v=a'→listed.setIfInBounds i true=l'→wpAnyH P md l.toArray Q S fuel l' a' w):wpAnyH P md l.toArray Q S (fuel+1) listed a w:=by
 obtain ⟨v,hv,h⟩:=h
 exact wpAnyH_take (hi_of hi₀) hs hf hr (hQ v) (.inl ⟨hw,fun w hS=>run_load1 ho hx hty.ok (hv w hS)⟩) hS (h _ _ rfl rfl)
end
theorem hs_ne (hS:St w0 X V L w) {b b' j j':Nat} {t t':TypeId} {cs cs':List Value} [h:Hs L b j t cs] [h':Hs L b' j' t' cs'] (ht:t≠t'):b≠b':=by
 rintro rfl
 have h1:=hS.at h.ok
 rw [hS.at h'.ok] at h1
 simp at h1
 exact ht h1.2.symm
end Go.Mm
namespace Go.Wg
open Go Go.Mm Go.Proofs.YtjjmefieegcddaaDoor
variable {w0:World} {X:List Nat} {V:View} {L:List Ent} {w:World}
theorem row_cases {v:Value} {t:TypeId} {s n:Nat} {xs:List Value} (h:St w0 X V (.row v t s n xs :: L) w) :
  (v=.slice none 0 0∧n=0)∨∃ g cap pad,v=.slice (some ⟨g,0,none⟩) n cap∧n≤cap∧cap≤maxLen∧xs.length=n * s∧(xs ++ pad).length=cap * s∧(∀ c∈pad,flat0 c=true)∧St w0 X V (.blk g t (xs ++ pad) :: L) w:=by
 obtain ⟨⟨hl,hr⟩,hp⟩:=h.has _ (List.mem_cons_self ..)
 rcases hr with ⟨hv,h0⟩ | ⟨g,cap,cur,rfl,_,hb,h1,h2,h3,h4⟩
 ·exact .inl ⟨hv,h0⟩
 ·refine .inr ?_
  have hxs:xs ++ cur.toList.drop (n * s)=cur.toList:=by rw [← h4,List.take_append_drop]
  have hb':w.heap[g]? = some (.cells cur t (0,0)):=by simpa using hb
  refine ⟨g,cap,cur.toList.drop (n * s),rfl,h1,h2,hl,by rw [hxs];simpa using h3,fun c hc=>?_,?_⟩
  ·obtain ⟨i,hi⟩:=List.mem_iff_getElem?.1 hc
   rw [List.getElem?_drop] at hi
   exact hp g rfl cur t (0,0) hb' (n * s+i) c (by omega) (by simpa using hi)
  ·rw [hxs]
   refine ⟨h.os,h.output,h.size,h.old,h.view,fun e he=>?_,fun e he b hb=>?_,fun e he b hb=>?_,h.nd⟩
   ·rcases List.mem_cons.1 he with rfl | he
    ·exact hb'
    ·exact h.has e (List.mem_cons_of_mem _ he)
   ·rcases List.mem_cons.1 he with rfl | he
    ·exact h.new _ (List.mem_cons_self ..) b hb
    ·exact h.new e (List.mem_cons_of_mem _ he) b hb
   ·rcases List.mem_cons.1 he with rfl | he
    ·exact h.off _ (List.mem_cons_self ..) b hb
    ·exact h.off e (List.mem_cons_of_mem _ he) b hb
theorem row_blk {v:Value} {t:TypeId} {s n:Nat} {xs:List Value} (h:St w0 X V (.row v t s n xs :: L) w) (hn:0 < n) :
  ∃ g cap pad,v=.slice (some ⟨g,0,none⟩) n cap∧n≤cap∧cap≤maxLen∧xs.length=n * s∧(xs ++ pad).length=cap * s∧(∀ c∈pad,flat0 c=true)∧St w0 X V (.blk g t (xs ++ pad) :: L) w:=by
 rcases row_cases h with ⟨_,h0⟩ | h
 ·omega
 ·exact h
theorem blk_row {t:TypeId} {s n g cap:Nat} {xs pad:List Value} (h:St w0 X V (.blk g t (xs ++ pad) :: L) w) (h1:n≤cap) (h2:cap≤maxLen) (hl:xs.length=n * s) (h3:(xs ++ pad).length=cap * s) (hp:∀ c∈pad,flat0 c=true) :
  St w0 X V (.row (.slice (some ⟨g,0,none⟩) n cap) t s n xs :: L) w:=by
 have hb:w.heap[g]? = some (.cells (xs ++ pad).toArray t (0,0)):=h.has _ (List.mem_cons_self ..)
 refine ⟨h.os,h.output,h.size,h.old,h.view,fun e he=>?_,fun e he b hb=>?_,fun e he b hb=>?_,h.nd⟩
 ·rcases List.mem_cons.1 he with rfl | he
  ·refine ⟨⟨hl,.inr ⟨g,cap,(xs ++ pad).toArray,rfl,Nat.zero_le _,hb,h1,h2,by simpa using h3,by simp [← hl]⟩⟩,fun g' hg' cur t' fr hcur i c hi hc=>?_⟩
   have:g'=g:=by simpa [Value.ownBlock] using hg'.symm
   subst this
   rw [hb] at hcur
   cases hcur
   rw [List.getElem?_toArray,List.getElem?_append_right (by omega)] at hc
   exact hp c (List.mem_of_getElem? hc)
  ·exact h.has e (List.mem_cons_of_mem _ he)
 ·rcases List.mem_cons.1 he with rfl | he
  ·exact h.new _ (List.mem_cons_self ..) b hb
  ·exact h.new e (List.mem_cons_of_mem _ he) b hb
 ·rcases List.mem_cons.1 he with rfl | he
  ·exact h.off _ (List.mem_cons_self ..) b hb
  ·exact h.off e (List.mem_cons_of_mem _ he) b hb
theorem view_more {b:Nat} {o:Obj} (hb:V b=none):∀ j u,V j=some u→(fun k=>if k=b then some o else V k) j=some u:=fun j u hj=>by
 have:j≠b:=by
  rintro rfl
  rw [hb] at hj
  cases hj
 simp [this,hj]
theorem range_of {V':View} {b t:Nat} {α:Type} {f:α→List Value} (hf:∀ x,(f x).length=4) {l:List α} {pad:List Value} (hb:V' b=some (.cells (l.flatMap f ++ pad).toArray t (0,0))) {i:Nat} {x:α} (hx:l[i]? = some x):V'.Range b (0+i * 4) (f x):=fun j v hj=>by
 have hj4:j < 4:=by
  have:=(List.getElem?_eq_some_iff.1 hj).1
  rwa [hf] at this
 refine ⟨_,_,_,hb,?_⟩
 have hi:=(List.getElem?_eq_some_iff.1 hx).1
 rw [List.getElem?_toArray,Nat.zero_add,List.getElem?_append_left (by rw [flat4_len f hf];omega),flat4 f hf l i x hx j hj4]
 exact hj
theorem works_view {k:Wk} {vv rv:Value} (h:St w0 [] V (.row vv 29 4 k.n (vesC k.ves) :: .row rv 59 4 k.rdg.length (rdgC k.rdg) :: L) w) (hg:gN≤w0.heap.size) (hB:Bs V) (hn:0 < k.n∧k.n≤100∧k.rdg.length≤100) :
  ∃ V',(∀ j o,V j=some o→V' j=some o)∧St w0 [] V' L w∧WkIn V' vv rv k:=by
 have hv4:∀ v:Ves,v.cells.length=4:=fun _=>rfl
 have hr4:∀ r:Rdg,r.cells.length=4:=fun _=>rfl
 have hfl:∀ i,i < k.n→k.ves[i]? = some (k.v i):=fun i hi=>by
  unfold Wk.n at hi
  simp [Wk.v,List.getD_eq_getElem?_getD,List.getElem?_eq_getElem hi]
 have hfr:∀ i,i < k.rdg.length→k.rdg[i]? = some (k.rdg.getD i default):=fun i hi=>by simp [List.getD_eq_getElem?_getD,List.getElem?_eq_getElem hi]
 have new0:∀ {L:List Ent} {V:View} {w:World} {b t cs},St w0 [] V (.blk b t cs :: L) w→gN≤b:=fun h=>by
  rcases h.new _ (List.mem_cons_self ..) _ rfl with h1 | h1
  ·omega
  ·cases h1
 obtain ⟨g,cap,pad,rfl,c1,c2,c3,c4,c5,h1⟩:=row_blk h hn.1
 have hgV:=h1.off _ (List.mem_cons_self ..) g rfl
 have hgn:=new0 h1
 have h2:=h1.freeze
 obtain ⟨o,ho⟩:=hB.last
 have hcv:∀ v∈(vesC k.ves ++ pad).toArray,flat0 v=true:=fun v hv=>by
  rcases List.mem_append.1 (by simpa using hv) with hv | hv
  ·exact vesC_flat _ v hv
  ·exact c5 v hv
 have hRv:∀ {V':View},V' g=some (.cells (vesC k.ves ++ pad).toArray 29 (0,0))→VSl V' (.slice (some ⟨g,0,none⟩) k.n cap) k.n 4 fun i=>(k.v i).cells:=fun hb=>⟨_,cap,rfl,c1,c2,fun _=>⟨g,0,rfl,fun i hi=>range_of hv4 hb (hfl i hi)⟩⟩
 rcases row_cases h2 with ⟨rfl,r0⟩ | ⟨gr,capr,padr,rfl,r1,r2,r3,r4,r5,h3⟩
 ·refine ⟨_,view_more hgV,h2.drop,⟨hRv (if_pos rfl),⟨none,0,by rw [r0],by omega,by decide,fun h=>by omega⟩,hn.2,?_⟩⟩
  refine ⟨[g],⟨fun b hb=>?_,fun b hb=>?_,⟨o,view_more hgV _ _ ho⟩⟩,.inr (.inr ⟨g,0,_,_,rfl,by simp⟩),.inl rfl⟩
  ·obtain rfl:b=g:=by simpa using hb
   exact ⟨_,_,if_pos rfl,fun v hv=>.inl (hcv v hv)⟩
  ·obtain rfl:b=g:=by simpa using hb
   exact hgn
 ·have hrV:=h3.off _ (List.mem_cons_self ..) gr rfl
  have hrn:=new0 h3
  have h4:=h3.freeze
  have hrg:g≠gr:=by
   rintro rfl
   simp at hrV
  have hcr:∀ v∈(rdgC k.rdg ++ padr).toArray,flat0 v=true:=fun v hv=>by
   rcases List.mem_append.1 (by simpa using hv) with hv | hv
   ·exact rdgC_flat _ v hv
   ·exact r5 v hv
  have m1:=view_more (o:=.cells (vesC k.ves ++ pad).toArray 29 (0,0)) hgV
  have m2:=view_more (V:=fun j=>if j=g then some (.cells (vesC k.ves ++ pad).toArray 29 (0,0)) else V j) (o:=.cells (rdgC k.rdg ++ padr).toArray 59 (0,0)) hrV
  have e1:=m2 g _ (if_pos rfl)
  refine ⟨_,fun j u hj=>m2 j u (m1 j u hj),h4,⟨hRv e1,⟨_,capr,rfl,r1,r2,fun _=>⟨gr,0,rfl,fun i hi=>range_of hr4 (if_pos rfl) (hfr i hi)⟩⟩,hn.2,?_⟩⟩
  refine ⟨[g,gr],⟨fun b hb=>?_,fun b hb=>?_,⟨o,m2 _ _ (m1 _ _ ho)⟩⟩,.inr (.inr ⟨g,0,_,_,rfl,by simp⟩),.inr (.inr ⟨gr,0,_,_,rfl,by simp⟩)⟩
  ·rcases List.mem_cons.1 hb with rfl | hb
   ·exact ⟨_,_,e1,fun v hv=>.inl (hcv v hv)⟩
   ·obtain rfl:b=gr:=by simpa using hb
    exact ⟨_,_,if_pos rfl,fun v hv=>.inl (hcr v hv)⟩
  ·rcases List.mem_cons.1 hb with rfl | hb
   ·exact hgn
   ·obtain rfl:b=gr:=by simpa using hb
    exact hrn
end Go.Wg
