/- A part of the proof: W12, Q5, W18, W19. -/
import Derived.Test.YtjjmefieegcddaaDoorB07
import Derived.Test.YtjjmefieegcddaaDoorB08
import Derived.Test.YtjjmefieegcddaaDoorB06
import Derived.Test.YtjjmefieegcddaaDoorB10
set_option linter.unusedVariables false
set_option linter.unusedSimpArgs false
namespace Go.Proofs.YtjjmefieegcddaaDoor
open Go.RowKit Go.Wg Go.Mm
theorem outside_ok' (n lo hi:Int) (w:World) :
  Calls Tryd.prog 88 #[.int .i64 n,.int .i64 lo,.int .i64 hi] w fun r w'=>r=.returned (.bool (outB n lo hi))∧Kp w w' :=
 (outside_ok n lo hi w).mono fun _ _ ⟨h1,h2⟩=>⟨h1,h2 ▸ Kp.refl _⟩
theorem unless_ok' (b:Bool) (e:Int) (w:World) :
  Calls Tryd.prog 87 #[.bool b,.int .i64 e] w fun r w'=>r=.returned (.int .i64 (unlessE b e))∧Kp w w' :=
 (unless_ok b e w).mono fun _ _ ⟨h1,h2⟩=>⟨h1,h2 ▸ Kp.refl _⟩
theorem firstE_take (l:List Int) (m:Nat) (hm:m < l.length) (h0:firstE (l.take m)=0) (h1:l.getD m 0≠0):firstE l=l.getD m 0:=by
 have e:firstE l=firstE (l.take m ++ l.drop m):=by rw [List.take_append_drop]
 have e2:l.getD m 0=l[m]:=by simp [List.getD_eq_getElem?_getD,List.getElem?_eq_getElem hm]
 rw [e2] at h1 ⊢
 rw [e,firstE_append,if_pos h0,List.drop_eq_getElem_cons hm]
 simp only [firstE,h1,if_false]
theorem firstE_next (l:List Int) (m:Nat) (hm:m < l.length) (h0:firstE (l.take m)=0) (h1:l.getD m 0=0):firstE (l.take (m+1))=0:=by
 rw [List.take_succ_eq_append_getElem hm,firstE_append,if_pos h0]
 have e2:l.getD m 0=l[m]:=by simp [List.getD_eq_getElem?_getD,List.getElem?_eq_getElem hm]
 rw [e2] at h1
 simp [firstE,h1]
set_option maxHeartbeats 1000000 in
theorem first_ok (l:List Int) (b cap:Nat) (t:TypeId) (hl:l.length≤100) (w:World) (hb:w.heap[b]? = some (.cells (l.map (Value.int .i64)).toArray t (0,0))) :
  Calls Tryd.prog 86 #[.slice (some ⟨b,0,none⟩) l.length cap] w fun r w'=>r=.returned (.int .i64 (firstE l))∧Kp w w':=by
 obtain ⟨V,hVV⟩:∃ V:View,V=fun k=>if k=b then some (.cells (l.map (Value.int .i64)).toArray t (0,0)) else none:=⟨_,rfl⟩
 have hS:=St.start w V (by
  rw [hVV]
  intro k o h
  by_cases hk:k=b
  ·subst hk;simp at h;subst h;exact hb
  ·simp [hk] at h)
 have hcell:∀ m,m < l.length→V.Cell b m (.int .i64 (l.getD m 0)):=fun m hm=>by
  rw [hVV]
  exact ⟨(l.map (Value.int .i64)).toArray,t,(0,0),by simp,by simp [List.getD_eq_getElem?_getD,List.getElem?_eq_getElem hm]⟩
 replace hVV:=mkHid hVV
 clear hb
 go_enter Tryd.func86,Tryd.ntmps86
 go_wp2_with (fail)
 go_loopw [7] (fun i wr=>∃ m:Nat,m≤l.length∧i=.int .i64 (m:Int)∧firstE (l.take m)=0∧St w [] V [] wr) (fun i _=>l.length - (intOf i).toNat)
 case atStart=>exact ⟨0,by omega,rfl,rfl,hS⟩
 case round =>
  clear hS
  obtain ⟨m,hm,rfl,hz,hS⟩:=hrel
  by_cases hlt:m < l.length
  ·have h0:(0:Int)≤m:=by omega
   have h1:(m:Int) < l.length:=by omega
   have hc:=hcell m hlt
   have HT:=firstE_take l m hlt hz
   have HN:=firstE_next l m hlt hz
   replace HT:=mkHid HT;replace HN:=mkHid HN;replace hz:=mkHid hz
   clear hcell
   generalize l.getD m 0=e at hc HT HN
   by_cases he:e=0
   ·subst he
    go_wp2_with (((with_reducible refine gL ?_);refine qv1 hS rfl rfl rfl ?_);refine ⟨_,zd,?_⟩;clear hS;(try clear w');intro a' hp;(try simp only [fr] at hp);subst hp;intro w' hS;(try simp only [sE] at hS))
    go_roundw
    case rel=>exact ⟨m+1,by omega,by go_num,HN.out (by simp),hS⟩
    case measure=>simp only [intOf];omega
   ·have he':(e == 0)=false:=by rw [beq_eq_false_iff_ne];exact he
    go_wp2_with (((with_reducible refine gL ?_);refine qv1 hS rfl rfl rfl ?_);refine ⟨_,zd,?_⟩;clear hS;(try clear w');intro a' hp;(try simp only [fr] at hp);subst hp;intro w' hS;(try simp only [sE] at hS))
    go_ret
    exact ⟨by rw [HT.out he];rfl,hS.toKp⟩
  ·obtain rfl:m=l.length:=by omega
   rw [List.take_length] at hz
   replace hz:=mkHid hz
   go_wp2_with (fail)
   go_ret
   exact ⟨by rw [hz.out];rfl,hS.toKp⟩
structure WkIn (V:View) (vv rv:Value) (k:Wk):Prop where
 ves:VSl V vv k.n 4 fun i=>(k.v i).cells
 rdg:VSl V rv k.rdg.length 4 fun i=>(k.rdg.getD i default).cells
 small:k.n≤100∧k.rdg.length≤100
 cl:∃ D0,Closed V D0∧inD D0 vv∧inD D0 rv
theorem first2 (x y:Int) (b cap:Nat) (t:TypeId) (w:World) (hb:w.heap[b]? = some (.cells [.int .i64 x,.int .i64 y].toArray t (0,0))) :
  Calls Tryd.prog 86 #[.slice (some ⟨b,0,none⟩) 2 cap] w fun r w'=>r=.returned (.int .i64 (firstE [x,y]))∧Kp w w':=first_ok [x,y] b cap t (by simp) w hb
theorem first4 (x y z u:Int) (b cap:Nat) (t:TypeId) (w:World) (hb:w.heap[b]? = some (.cells [.int .i64 x,.int .i64 y,.int .i64 z,.int .i64 u].toArray t (0,0))) :
  Calls Tryd.prog 86 #[.slice (some ⟨b,0,none⟩) 4 cap] w fun r w'=>r=.returned (.int .i64 (firstE [x,y,z,u]))∧Kp w w':=first_ok [x,y,z,u] b cap t (by simp) w hb
theorem first2' {x y:Int} {b cap:Nat} {t:TypeId} {w:World} {args:Array Value} (ha:args=#[.slice (some ⟨b,0,none⟩) 2 cap]) (hb:w.heap[b]? = some (.cells [.int .i64 x,.int .i64 y].toArray t (0,0))) :
  Calls Tryd.prog 86 args w fun r w'=>r=.returned (.int .i64 (firstE [x,y]))∧Kp w w':=by subst ha;exact first2 x y b cap t w hb
theorem first4' {x y z u:Int} {b cap:Nat} {t:TypeId} {w:World} {args:Array Value} (ha:args=#[.slice (some ⟨b,0,none⟩) 4 cap]) (hb:w.heap[b]? = some (.cells [.int .i64 x,.int .i64 y,.int .i64 z,.int .i64 u].toArray t (0,0))) :
  Calls Tryd.prog 86 args w fun r w'=>r=.returned (.int .i64 (firstE [x,y,z,u]))∧Kp w w':=by subst ha;exact first4 x y z u b cap t w hb
set_option maxRecDepth 20000 in
set_option maxHeartbeats 2000000 in
theorem check_ok (V:View) (vv rv:Value) (k:Wk) (hk:WkIn V vv rv k) (w:World) (hV:V.In w) :
  Calls Tryd.prog 29 #[.agg #[vv,rv]] w fun r w'=>r=.returned (.int .i64 (checkE k))∧Kp w w':=by
 obtain ⟨va,vcap,rfl,hvc,hvm,hve⟩:=hk.ves.is
 obtain ⟨ra,rcap,rfl,hrc,hrm,hre⟩:=hk.rdg.is
 obtain ⟨hs1,hs2⟩:=hk.small
 have hS:=St.start w V hV
 clear hk
 have HC:checkE k=firstE [firstE [unlessE (decide (0 < k.n)) 7,unlessE (decide (k.n≤6)) 6],vesTo k k.n,if 6 < k.rdg.length then 6 else 0,rdgTo k k.rdg.length]:=rfl
 replace HC:=mkHid HC
 go_enter Tryd.func29,Tryd.ntmps29
 go_wp2_with ((with_reducible refine gB ?_);refine qboxd 1 rfl hS rfl rfl rfl ?_;refine ⟨_,za,?_⟩;clear hS;(try clear w');intro b1;intro a' hp;(try simp only [fr] at hp);subst hp;intro w' hS)
 (refine held_start (S:=(St w [] V [.blk b1 25 [.slice va k.n vcap,.slice ra k.rdg.length rcap]])) [false,false,false,false,false,false,false,false,false,false,false,false,false] rfl (by kernel_rfl) ?_;replace hS:=St.drew1 hS;(iterate 8 ((first | refine hxp 0 rfl ?_ | refine hxa 1 rfl ?_ | refine hxp 2 rfl ?_ | refine hxp 3 rfl ?_ | refine hxp 5 rfl ?_ | refine hxa 6 rfl ?_ | refine hxp 7 rfl ?_ | refine hxp 8 rfl ?_);intro a' l' hp hl;(try simp only [fr] at hp);(try simp only [sB] at hl);subst hp;subst hl));(refine he_con 4 (by kernel_rfl) rfl hS rfl  ?_;refine ⟨_,_,zo,?_⟩;refine ⟨_,by (go_at_call 87;exact unless_ok' _ _ _),?_⟩;clear hS;(try clear w');intro a' l' hp hl;(try simp only [fr] at hp);(try simp only [sB] at hl);subst hp;subst hl;intro w' hS;refine ⟨(St.subI hS),?_⟩);(refine he_con 9 (by kernel_rfl) rfl hS rfl  ?_;refine ⟨_,_,zo,?_⟩;refine ⟨_,by (go_at_call 87;exact unless_ok' _ _ _),?_⟩;clear hS;(try clear w');intro a' l' hp hl;(try simp only [fr] at hp);(try simp only [sB] at hl);subst hp;subst hl;intro w' hS;refine ⟨(St.subI hS),?_⟩);(refine he_bsl 10 (by kernel_rfl) rfl hS rfl  rfl ?_;refine ⟨_,zq,zd,?_⟩;clear hS;(try clear w');intro b25;intro a' l' hp hl;(try simp only [fr] at hp);(try simp only [sB] at hl);subst hp;subst hl;intro w' hS;refine ⟨(St.subI hS),?_⟩);(refine he_con 11 (by kernel_rfl) rfl hS rfl  ?_;refine ⟨_,_,zo,?_⟩;refine ⟨_,by (go_at_call 86;exact first2' rfl (St.at (by assumption) (j:=0) rfl)),?_⟩;clear hS;(try clear w');intro a' l' hp hl;(try simp only [fr] at hp);(try simp only [sB] at hl);subst hp;subst hl;intro w' hS;refine ⟨(St.subI hS),?_⟩);(refine hxp 12 rfl ?_;intro a' l' hp hl;(try simp only [fr] at hp);(try simp only [sB] at hl);subst hp;subst hl);refine wpAnyH_done (by kernel_rfl) ?_ _)
 replace hS:=hS.drop
 have E0:firstE [unlessE (decide (0 < k.n)) 7,unlessE (decide ((k.n:Int)≤6)) 6]=firstE [unlessE (decide (0 < k.n)) 7,unlessE (decide (k.n≤6)) 6]:=by
  have e:decide ((k.n:Int)≤6)=decide (k.n≤6):=by rw [decide_eq_decide];omega
  rw [e]
 rw [E0]
 have EN:firstE [unlessE (decide (0 < k.n)) 7,unlessE (decide (k.n≤6)) 6]=0→0 < k.n∧k.n≤6:=by
  unfold unlessE
  by_cases h1:0 < k.n <;> by_cases h2:k.n≤6 <;> simp [h1,h2,firstE]
 clear E0
 generalize firstE [unlessE (decide (0 < k.n)) 7,unlessE (decide (k.n≤6)) 6]=e0 at HC EN ⊢
 by_cases h0:e0=0
 ·subst h0
  obtain ⟨hn0,hn6⟩:=EN rfl
  obtain ⟨vg,vo,rfl,hvr⟩:=hve hn0
  clear EN hve
  have hd1:decide (0 < k.n)=true:=by simpa using hn0
  have hd2:decide ((k.n:Int)≤6)=true:=by rw [decide_eq_true_iff];omega
  rw [hd1,hd2]
  go_wp2_with (((with_reducible refine gL ?_);refine ql1 hS rfl rfl rfl ?_);refine ⟨_,zd,?_⟩;clear hS;(try clear w');intro a' hp;(try simp only [fr] at hp);subst hp;intro w' hS;(try simp only [sE] at hS))
  go_loopw [33] (fun i wr=>∃ m:Nat,m≤k.n∧i=.int .i64 (m:Int)∧vesTo k m=0∧St w [] V [.blk b1 25 [.slice (some ⟨vg,vo,none⟩) k.n vcap,.slice ra k.rdg.length rcap]] wr) (fun i _=>k.n - (intOf i).toNat)
  case atStart=>exact ⟨0,by omega,rfl,rfl,hS⟩
  case round =>
   clear hS
   obtain ⟨m,hm,rfl,hz,hS⟩:=hrel
   by_cases hlt:m < k.n
   ·have h0:(0:Int)≤m:=by omega
    have h1:(m:Int) < k.n:=by omega
    have hcell:=hvr m hlt
    have hcl:(k.v m).cells.length=4:=rfl
    have HN:=vesTo_succ k m
    rw [if_pos hz] at HN
    have HH:=@vesTo_hit k m k.n hlt hz
    replace HN:=mkHid HN;replace HH:=mkHid HH;replace hz:=mkHid hz
    have HVE:firstE [unlessE (!outB (k.v m).from_ (-1) (m - 1)) 3,unlessE (!outB (k.v m).room 0 40) 1,unlessE (!outB (k.v m).lo 0 20 && !outB (k.v m).hi 0 20) 1,unlessE (decide ((k.v m).lo≤(k.v m).hi)) 5]=vesE m (k.v m):=rfl
    generalize vesE m (k.v m)=e at HN HH HVE
    clear hvr hre
    cases hlo:outB (k.v m).lo 0 20
    all_goals
     simp only [hlo,Bool.not_true,Bool.not_false,Bool.true_and,Bool.false_and] at HVE
     by_cases he:e=0
    ·subst he
     go_wp2_with (first | (first | ((first | ((with_reducible refine gL ?_);first | refine ql1 hS rfl rfl rfl ?_ | refine qvn hS rfl rfl rfl ?_) | ((with_reducible refine gS ?_);refine qsall hS rfl rfl rfl ?_));refine ⟨_,zd,?_⟩;clear hS;(try clear w');intro a' hp;(try simp only [fr] at hp);subst hp;intro w' hS;(try simp only [sE] at hS)) | (((with_reducible refine gA ?_);refine qalloc hS rfl rfl ?_);clear hS;(try clear w');intro _;intro a' hp;(try simp only [fr] at hp);subst hp;intro w' hS)) | ((with_reducible refine gSl ?_);refine qbsl hS rfl rfl ?_;refine ⟨_,zq,zd,?_⟩;clear hS;(try clear w');intro _;intro a' hp;(try simp only [fr] at hp);subst hp;intro w' hS) | ((with_reducible refine gC ?_);refine calls_by hS ⟨_,by (first | (go_at_call 88;exact outside_ok' _ _ _ _) | (go_at_call 87;exact unless_ok' _ _ _) | (go_at_call 86;exact first4' rfl (St.at (by assumption) (j:=0) rfl))),?_⟩;clear hS;(try clear w');intro w' hS))
     replace hS:=hS.drop.drop
     go_roundw
     case rel=>exact ⟨m+1,by omega,by go_num,by rw [HN.out],hS⟩
     case measure=>simp only [intOf];omega
    ·have he':(e == 0)=false:=by rw [beq_eq_false_iff_ne];exact he
     go_wp2_with (first | (first | ((first | ((with_reducible refine gL ?_);first | refine ql1 hS rfl rfl rfl ?_ | refine qvn hS rfl rfl rfl ?_) | ((with_reducible refine gS ?_);refine qsall hS rfl rfl rfl ?_));refine ⟨_,zd,?_⟩;clear hS;(try clear w');intro a' hp;(try simp only [fr] at hp);subst hp;intro w' hS;(try simp only [sE] at hS)) | (((with_reducible refine gA ?_);refine qalloc hS rfl rfl ?_);clear hS;(try clear w');intro _;intro a' hp;(try simp only [fr] at hp);subst hp;intro w' hS)) | ((with_reducible refine gSl ?_);refine qbsl hS rfl rfl ?_;refine ⟨_,zq,zd,?_⟩;clear hS;(try clear w');intro _;intro a' hp;(try simp only [fr] at hp);subst hp;intro w' hS) | ((with_reducible refine gC ?_);refine calls_by hS ⟨_,by (first | (go_at_call 88;exact outside_ok' _ _ _ _) | (go_at_call 87;exact unless_ok' _ _ _) | (go_at_call 86;exact first4' rfl (St.at (by assumption) (j:=0) rfl))),?_⟩;clear hS;(try clear w');intro w' hS))
     go_ret
     refine ⟨?_,hS.toKp⟩
     rw [HC.out,HH.out he]
     simp [firstE,he]
    ·subst he
     go_wp2_with (first | (first | ((first | ((with_reducible refine gL ?_);first | refine ql1 hS rfl rfl rfl ?_ | refine qvn hS rfl rfl rfl ?_) | ((with_reducible refine gS ?_);refine qsall hS rfl rfl rfl ?_));refine ⟨_,zd,?_⟩;clear hS;(try clear w');intro a' hp;(try simp only [fr] at hp);subst hp;intro w' hS;(try simp only [sE] at hS)) | (((with_reducible refine gA ?_);refine qalloc hS rfl rfl ?_);clear hS;(try clear w');intro _;intro a' hp;(try simp only [fr] at hp);subst hp;intro w' hS)) | ((with_reducible refine gSl ?_);refine qbsl hS rfl rfl ?_;refine ⟨_,zq,zd,?_⟩;clear hS;(try clear w');intro _;intro a' hp;(try simp only [fr] at hp);subst hp;intro w' hS) | ((with_reducible refine gC ?_);refine calls_by hS ⟨_,by (first | (go_at_call 88;exact outside_ok' _ _ _ _) | (go_at_call 87;exact unless_ok' _ _ _) | (go_at_call 86;exact first4' rfl (St.at (by assumption) (j:=0) rfl))),?_⟩;clear hS;(try clear w');intro w' hS))
     replace hS:=hS.drop.drop
     go_roundw
     case rel=>exact ⟨m+1,by omega,by go_num,by rw [HN.out],hS⟩
     case measure=>simp only [intOf];omega
    ·have he':(e == 0)=false:=by rw [beq_eq_false_iff_ne];exact he
     go_wp2_with (first | (first | ((first | ((with_reducible refine gL ?_);first | refine ql1 hS rfl rfl rfl ?_ | refine qvn hS rfl rfl rfl ?_) | ((with_reducible refine gS ?_);refine qsall hS rfl rfl rfl ?_));refine ⟨_,zd,?_⟩;clear hS;(try clear w');intro a' hp;(try simp only [fr] at hp);subst hp;intro w' hS;(try simp only [sE] at hS)) | (((with_reducible refine gA ?_);refine qalloc hS rfl rfl ?_);clear hS;(try clear w');intro _;intro a' hp;(try simp only [fr] at hp);subst hp;intro w' hS)) | ((with_reducible refine gSl ?_);refine qbsl hS rfl rfl ?_;refine ⟨_,zq,zd,?_⟩;clear hS;(try clear w');intro _;intro a' hp;(try simp only [fr] at hp);subst hp;intro w' hS) | ((with_reducible refine gC ?_);refine calls_by hS ⟨_,by (first | (go_at_call 88;exact outside_ok' _ _ _ _) | (go_at_call 87;exact unless_ok' _ _ _) | (go_at_call 86;exact first4' rfl (St.at (by assumption) (j:=0) rfl))),?_⟩;clear hS;(try clear w');intro w' hS))
     go_ret
     refine ⟨?_,hS.toKp⟩
     rw [HC.out,HH.out he]
     simp [firstE,he]
   ·obtain rfl:m=k.n:=by omega
    clear hvr
    by_cases h6:6 < k.rdg.length
    ·have h6':(6:Int) < k.rdg.length:=by omega
     replace hz:=mkHid hz
     go_wp2_with (((with_reducible refine gL ?_);refine ql1 hS rfl rfl rfl ?_);refine ⟨_,zd,?_⟩;clear hS;(try clear w');intro a' hp;(try simp only [fr] at hp);subst hp;intro w' hS;(try simp only [sE] at hS))
     go_ret
     refine ⟨?_,hS.toKp⟩
     rw [HC.out,hz.out,if_pos h6]
     simp [firstE]
    ·have h6':(k.rdg.length:Int)≤6:=by omega
     have HC':checkE k=rdgTo k k.rdg.length:=by
      rw [HC.out,hz,if_neg h6]
      simp [firstE]
      intro h;exact h.symm
     replace HC':=mkHid HC'
     clear hz HC
     go_wp2_with (((with_reducible refine gL ?_);refine ql1 hS rfl rfl rfl ?_);refine ⟨_,zd,?_⟩;clear hS;(try clear w');intro a' hp;(try simp only [fr] at hp);subst hp;intro w' hS;(try simp only [sE] at hS))
     go_loopw [87] (fun i wr=>∃ m:Nat,m≤k.rdg.length∧i=.int .i64 (m:Int)∧rdgTo k m=0∧St w [] V [.blk b1 25 [.slice (some ⟨vg,vo,none⟩) k.n vcap,.slice ra k.rdg.length rcap]] wr) (fun i _=>k.rdg.length - (intOf i).toNat)
     case atStart=>exact ⟨0,by omega,rfl,rfl,hS⟩
     case round =>
      clear hS
      obtain ⟨m,hm,rfl,hz,hS⟩:=hrel
      by_cases hlt:m < k.rdg.length
      ·have h0:(0:Int)≤m:=by omega
       have h1:(m:Int) < k.rdg.length:=by omega
       obtain ⟨rg,ro,rfl,hrr⟩:=hre (by omega)
       have hcell:=hrr m hlt
       have HN:=rdgTo_succ k m
       rw [if_pos hz] at HN
       have HH:=@rdgTo_hit k m k.rdg.length hlt hz
       replace HN:=mkHid HN;replace HH:=mkHid HH;replace hz:=mkHid hz
       generalize k.rdg.getD m default=r at hcell HN HH
       have hcl:r.cells.length=4:=rfl
       have HVE:firstE [unlessE (!outB r.vessel 0 (k.n - 1) && !outB r.scale 0 2) 3,unlessE (!outB r.shown 0 60 && !outB r.err 0 9) 1]=rdgE k.n r:=rfl
       generalize rdgE k.n r=e at HN HH HVE
       clear hre hrr
       have key:∀ b1 b2:Bool,outB r.vessel 0 (k.n - 1)=b1→outB r.shown 0 60=b2→True:=fun _ _ _ _=>trivial
       clear key
       cases hb1:outB r.vessel 0 (k.n - 1) <;> cases hb2:outB r.shown 0 60 <;> by_cases he:e=0
       all_goals
        simp only [hb1,hb2,Bool.not_true,Bool.not_false,Bool.true_and,Bool.false_and] at HVE
        first
         | (subst he
            go_wp2_with (first | (first | ((first | ((with_reducible refine gL ?_);first | refine ql1 hS rfl rfl rfl ?_ | refine qvn hS rfl rfl rfl ?_) | ((with_reducible refine gS ?_);refine qsall hS rfl rfl rfl ?_));refine ⟨_,zd,?_⟩;clear hS;(try clear w');intro a' hp;(try simp only [fr] at hp);subst hp;intro w' hS;(try simp only [sE] at hS)) | (((with_reducible refine gA ?_);refine qalloc hS rfl rfl ?_);clear hS;(try clear w');intro _;intro a' hp;(try simp only [fr] at hp);subst hp;intro w' hS)) | ((with_reducible refine gSl ?_);refine qbsl hS rfl rfl ?_;refine ⟨_,zq,zd,?_⟩;clear hS;(try clear w');intro _;intro a' hp;(try simp only [fr] at hp);subst hp;intro w' hS) | ((with_reducible refine gC ?_);refine calls_by hS ⟨_,by (first | (go_at_call 88;exact outside_ok' _ _ _ _) | (go_at_call 87;exact unless_ok' _ _ _) | (go_at_call 86;exact first2' rfl (St.at (by assumption) (j:=0) rfl))),?_⟩;clear hS;(try clear w');intro w' hS))
            replace hS:=hS.drop.drop
            go_roundw
            case rel=>exact ⟨m+1,by omega,by go_num,by rw [HN.out],hS⟩
            case measure=>simp only [intOf];omega)
         | (have he':(e == 0)=false:=by rw [beq_eq_false_iff_ne];exact he
            go_wp2_with (first | (first | ((first | ((with_reducible refine gL ?_);first | refine ql1 hS rfl rfl rfl ?_ | refine qvn hS rfl rfl rfl ?_) | ((with_reducible refine gS ?_);refine qsall hS rfl rfl rfl ?_));refine ⟨_,zd,?_⟩;clear hS;(try clear w');intro a' hp;(try simp only [fr] at hp);subst hp;intro w' hS;(try simp only [sE] at hS)) | (((with_reducible refine gA ?_);refine qalloc hS rfl rfl ?_);clear hS;(try clear w');intro _;intro a' hp;(try simp only [fr] at hp);subst hp;intro w' hS)) | ((with_reducible refine gSl ?_);refine qbsl hS rfl rfl ?_;refine ⟨_,zq,zd,?_⟩;clear hS;(try clear w');intro _;intro a' hp;(try simp only [fr] at hp);subst hp;intro w' hS) | ((with_reducible refine gC ?_);refine calls_by hS ⟨_,by (first | (go_at_call 88;exact outside_ok' _ _ _ _) | (go_at_call 87;exact unless_ok' _ _ _) | (go_at_call 86;exact first2' rfl (St.at (by assumption) (j:=0) rfl))),?_⟩;clear hS;(try clear w');intro w' hS))
            go_ret
            refine ⟨?_,hS.toKp⟩
            rw [HC'.out,HH.out he]
            rfl)
      ·obtain rfl:m=k.rdg.length:=by omega
       replace hz:=mkHid hz
       clear hre
       go_wp2_with (fail)
       go_ret
       refine ⟨?_,hS.toKp⟩
       rw [HC'.out,hz.out]
       rfl
 ·have he':(e0 == 0)=false:=by rw [beq_eq_false_iff_ne];exact h0
  go_wp2_with (fail)
  go_ret
  refine ⟨?_,hS.toKp⟩
  rw [HC.out]
  simp [firstE,h0]
end Go.Proofs.YtjjmefieegcddaaDoor
namespace Go.Mm
open Go
variable {P:Program} {w0:World} {X:List Nat} {V:View} {L:List Ent} {w:World}
class Hw (L:List Ent) (g:Nat) (j:outParam Nat) (t:outParam TypeId) (m cap s n:outParam Nat) (xs:outParam (List Value)):Prop where
 ok:L[j]? = some (.row (.slice (some ⟨g,0,none⟩) m cap) t s n xs)
instance Hw.here {L:List Ent} {g:Nat} {t:TypeId} {m cap s n:Nat} {xs:List Value}:Hw (.row (.slice (some ⟨g,0,none⟩) m cap) t s n xs :: L) g 0 t m cap s n xs:=⟨rfl⟩
instance Hw.there {L:List Ent} {g j:Nat} {t:TypeId} {m cap s n:Nat} {xs:List Value} {e:Ent} [h:Hw L g j t m cap s n xs]:Hw (e :: L) g (j+1) t m cap s n xs:=⟨by simpa using h.ok⟩
theorem row_cell {t:TypeId} {g m cap s n q:Nat} {xs:List Value} {v:Value} (h:w.ownsRow 0 t s (.slice (some ⟨g,0,none⟩) m cap) n xs) (hq:xs[q]? = some v):w.cell? ⟨g,q,none⟩=some v:=by
 obtain ⟨_,h2⟩:=h
 rcases h2 with ⟨h2,_⟩ | ⟨g',cap',cur,hv,_,h4,_,_,_,h8⟩
 ·cases h2
 ·cases hv
  have h4':w.heap[g]? = some (.cells cur.toList.toArray t (0,0)):=by simpa using h4
  refine cell_at h4' ?_
  rw [← h8,List.getElem?_take] at hq
  split at hq
  ·exact hq
  ·cases hq
section
variable {ops:Array Oper} {rest:List Oper} {o:Oper} {a:Act} {Q:Exit→Act→World→Prop}
theorem rowOne (hS:St w0 X V L w) (v:Value) {j:Nat} {t:TypeId} {s n:Nat} {xs:List Value} [hj:Hr L v j t s n xs]:v.oneCell'=true:=by
 obtain ⟨_,h⟩:=hS.atRow hj.ok
 rcases h with ⟨rfl,_⟩ | ⟨g,cap,cur,rfl,_⟩ <;> rfl
def AppG (P:Program) (w:World) (t:TypeId) (v:Value) (b m c:Nat) (K:Value→World→Prop):Prop :=
 ∀ (o:Oper) (ρ:Operand→Value) (sl x:Operand),o.op=.call { callee:=.builtin .append,args:=#[sl,x],argTypes:=#[t,t] }→ρ sl=v→ρ x=.slice (some ⟨b,0,none⟩) m c→∃ v' w',(execOp ρ o).run P w=.ok (.value v') w'∧K v' w'
theorem appG_of (hS:St w0 X V L w) {t e:TypeId} {size:Nat} [ht:ApT P t e size] {v:Value} {j n:Nat} {xs:List Value} [hj:Hr L v j e size n xs] {b m c jb:Nat} {te:TypeId} {news:List Value} [hjb:Hs L b jb te news]
  {K:Value→World→Prop} (hs:news.length=m * size∧(∀ u∈news,u.oneCell'=true)∧n+m≤1000) (h:∀ v' w',St w0 X V (L.set j (.row v' e size (n+m) (xs ++ news))) w'→K v' w'):AppG P w t v b m c K :=
 fun o ρ sl x ho hv hx=>by
  obtain ⟨v',w',hr,hS'⟩:=run_append hS ho ht.ok hj.ok hv hjb.ok hx hs.1 hs.2.1 hs.2.2
  exact ⟨v',w',hr,h v' w' hS'⟩
theorem qap (hgd:Region.wanted o (yielded ops a.tmps)=true) {sl x:Operand} {t:TypeId} (ho:o.op=.call { callee:=.builtin .append,args:=#[sl,x],argTypes:=#[t,t] })
  (h:∃ v b m c,evalL a sl=some v∧evalL a x=some (.slice (some ⟨b,0,none⟩) m c)∧AppG P w t v b m c fun v' w'=>∀ a',a.put o.dst v'=a'→wpList P ops Q rest a' w'):wpList P ops Q (o :: rest) a w:=by
 obtain ⟨v,b,m,c,hv,hx,hA⟩:=h
 obtain ⟨v',w',hr,hK⟩:=hA o a.eval sl x ho (evalL_ok hv) (evalL_ok hx)
 exact wpl_value hgd hr (hK _ rfl)
end
section
variable {l:List Oper} {md:Region.Mode} {o:Oper} {a:Act} {Q:Exit→Act→World→Prop} {S:World→Prop} {fuel:Nat} {listed:Array Bool}
theorem ht_r1 (i:Nat) (hi₀:l[i]? = some o) (hs:Region.noSelect l.toArray=true) (hf:Region.free md l.toArray listed i=true) (hr:(Region.ready md l.toArray listed).contains i=true)
  (hQ:∀ v c a w,Q (.panic c) (a.put o.dst v) w→Q (.panic c) a w) (hw:Region.wanted o (yielded l.toArray a.tmps)=true) (hS:St w0 X V L w)
  {ty:TypeId} {x:Operand} (ho:o.op=.load ty x) {b k:Nat} (hx:a.eval x=.pointer (some ⟨b,k,none⟩)) {j m cap s n:Nat} {t:TypeId} {xs:List Value} [hj:Hw L b j t m cap s n xs] [hty:OneT P ty]
  (h:∃ v,xs[k]? = some v∧∀ a' l',a.put o.dst v=a'→listed.setIfInBounds i true=l'→wpAnyH P md l.toArray Q (St w0 X V L) fuel l' a' w):wpAnyH P md l.toArray Q (St w0 X V L) (fuel+1) listed a w:=by
 obtain ⟨v,hv,h⟩:=h
 exact wpAnyH_take (hi_of hi₀) hs hf hr (hQ v) (.inl ⟨hw,fun _ hS=>run_load1 ho hx hty.ok (row_cell (hS.atRow hj.ok) hv)⟩) hS (h _ _ rfl rfl)
theorem he_ap (i:Nat) (hr:Region.ready md l.toArray listed=[i]) (hi₀:l[i]? = some o) (hw:Region.wanted o (yielded l.toArray a.tmps)=true) {sl x:Operand} {t:TypeId}
  (ho:o.op=.call { callee:=.builtin .append,args:=#[sl,x],argTypes:=#[t,t] })
  (h:∃ v b m c,evalL a sl=some v∧evalL a x=some (.slice (some ⟨b,0,none⟩) m c)∧AppG P w t v b m c fun v' w'=>∀ a' l',a.put o.dst v'=a'→listed.setIfInBounds i true=l'→S w'∧wpAnyH P md l.toArray Q S fuel l' a' w') :
  wpAnyH P md l.toArray Q S (fuel+1) listed a w:=by
 obtain ⟨v,b,m,c,hv,hx,hA⟩:=h
 obtain ⟨v',w',hr',hK⟩:=hA o a.eval sl x ho (evalL_ok hv) (evalL_ok hx)
 exact he_one hr (wpo_value (hi_of hi₀) hw hr' (hK _ _ rfl rfl))
theorem he_two (i j:Nat) (hr:Region.ready md l.toArray listed=[i,j])
  (h1:wpOp P l.toArray Q i (fun a' w'=>S w'∧wpAnyH P md l.toArray Q S fuel (listed.setIfInBounds i true) a' w') a w)
  (h2:wpOp P l.toArray Q j (fun a' w'=>S w'∧wpAnyH P md l.toArray Q S fuel (listed.setIfInBounds j true) a' w') a w):wpAnyH P md l.toArray Q S (fuel+1) listed a w :=
 wpAnyH_all hr (by simp) fun k hk=>by
  simp only [List.mem_cons,List.not_mem_nil,or_false] at hk
  rcases hk with rfl | rfl
  ·exact h1
  ·exact h2
theorem we_l1 (i:Nat) (hi₀:l[i]? = some o) (hS:St w0 X V L w) (hw:Region.wanted o (yielded l.toArray a.tmps)=true) {ty:TypeId} {x:Operand} (ho:o.op=.load ty x)
  {b k:Nat} (hx:a.eval x=.pointer (some ⟨b,k,none⟩)) {j:Nat} {t:TypeId} {cs:List Value} [hj:Hs L b j t cs] [hty:OneT P ty]
  (h:∃ v,cs[k]? = some v∧∀ a' l',a.put o.dst v=a'→listed.setIfInBounds i true=l'→∀ w',St w0 X V L w'→S w'∧wpAnyH P md l.toArray Q S fuel l' a' w') :
  wpOp P l.toArray Q i (fun a' w'=>S w'∧wpAnyH P md l.toArray Q S fuel (listed.setIfInBounds i true) a' w') a w:=by
 obtain ⟨v,hv,h⟩:=h
 exact wpo_value (hi_of hi₀) hw (run_load1 ho hx hty.ok (cell_at (hS.at hj.ok) hv)) (h _ _ rfl rfl w hS)
theorem he_l1 (i:Nat) (hr:Region.ready md l.toArray listed=[i]) (hi₀:l[i]? = some o) (hS:St w0 X V L w) (hw:Region.wanted o (yielded l.toArray a.tmps)=true) {ty:TypeId} {x:Operand} (ho:o.op=.load ty x)
  {b k:Nat} (hx:a.eval x=.pointer (some ⟨b,k,none⟩)) {j:Nat} {t:TypeId} {cs:List Value} [hj:Hs L b j t cs] [hty:OneT P ty]
  (h:∃ v,cs[k]? = some v∧∀ a' l',a.put o.dst v=a'→listed.setIfInBounds i true=l'→∀ w',St w0 X V L w'→S w'∧wpAnyH P md l.toArray Q S fuel l' a' w') :
  wpAnyH P md l.toArray Q S (fuel+1) listed a w:=he_one hr (we_l1 i hi₀ hS hw ho hx h)
theorem we_bsl (i:Nat) (hi₀:l[i]? = some o) (hS:St w0 X V L w) (hw:Region.wanted o (yielded l.toArray a.tmps)=true) {t e:TypeId} {len:Nat} {parts:List (Nat × Operand)}
  (ho:o.op=.buildSlice t len parts.toArray) [ht:SlT P t e] (h:∃ vs,Parts a 0 parts vs∧(vs.length=len∧len≤100∧∀ v∈vs,v.oneCell'=true)∧∀ b a' l',a.put o.dst (.slice (some ⟨b,0,none⟩) len len)=a' →
   listed.setIfInBounds i true=l'→∀ w',St w0 X V (.blk b e vs :: L) w'→S w'∧wpAnyH P md l.toArray Q S fuel l' a' w') :
  wpOp P l.toArray Q i (fun a' w'=>S w'∧wpAnyH P md l.toArray Q S fuel (listed.setIfInBounds i true) a' w') a w:=by
 obtain ⟨vs,hp,hc,h⟩:=h
 exact wpo_bslice hS (hi_of hi₀) hw ho (by simpa using parts_ok hp) hc.1 hc.2.1 hc.2.2 ht.ok fun b w' hS'=>h b _ _ rfl rfl w' hS'
end
section
variable {P:Program} {w0:World} {X:List Nat} {V:View} {L:List Ent} {w:World} {l:List Oper} {md:Region.Mode} {o:Oper} {a:Act} {Q:Exit→Act→World→Prop} {S:World→Prop} {fuel:Nat} {listed:Array Bool}
theorem hxe (i:Nat) (_hn:listed[i]? = some false) {ty:TypeId} {x:Operand} {b k:Nat} {j m cap s n:Nat} {t:TypeId} {xs:List Value} {v:Value} (h:∀ a' l',a.put o.dst v=a'→listed.setIfInBounds i true=l'→wpAnyH P md l.toArray Q (St w0 X V L) fuel l' a' w) (hi₀:l[i]? = some o:=by exact rfl) (ho:o.op=.load ty x:=by exact rfl) (hx:a.eval x=.pointer (some ⟨b,k,none⟩):=by exact rfl) (hj:Hw L b j t m cap s n xs:=by exact inferInstance) (hty:OneT P ty:=by exact inferInstance) (hv:xs[k]? = some v:=by exact zd) (hs:Region.noSelect l.toArray=true:=by kernel_rfl) (hf:Region.free md l.toArray listed i=true:=by kernel_rfl) (hr:(Region.ready md l.toArray listed).contains i=true:=by kernel_rfl) (hQ:∀ v c a w,Q (.panic c) (a.put o.dst v) w→Q (.panic c) a w:=by first | exact fun _ _ _ _ h=>h | exact fun _ _ _ _ h=>panicD (by kernel_rfl) h | exact fun _ _ _ _ h=>nomatch h.1) (hw:Region.wanted o (yielded l.toArray a.tmps)=true:=by exact rfl) (hS':(St w0 X V L) w:=by first | exact St.subI hS | (refine ⟨?_,?_,?_⟩ <;> first | exact cell_at hS.has1 rfl | exact cell_at hS.has1 (by assumption))):wpAnyH P md l.toArray Q (St w0 X V L) (fuel+1) listed a w :=
 ht_r1 i hi₀ hs hf hr hQ hw hS' ho hx ⟨v,hv,h⟩
end
end Go.Mm
namespace Go.Proofs.YtjjmefieegcddaaDoor
open Go.RowKit Go.Wg Go.Mm
theorem perm_end {α:Type} (a b c d:α) (R:List α):(a :: b :: c :: d :: R).Perm (c :: d :: (R ++ [b,a])):=by
 have h1:(a :: b :: c :: d :: R).Perm (b :: a :: c :: d :: R):=List.Perm.swap _ _ _
 have h2:([b,a] ++ (c :: d :: R)).Perm ((c :: d :: R) ++ [b,a]):=List.perm_append_comm
 exact h1.trans h2
def tsN (ts:Nat→Nat) (i b:Nat):Nat→Nat:=fun x=>if x=i then b else ts x
theorem map_tsN (ts:Nat→Nat) (i b:Nat) (l:List Nat) (hl:∀ x∈l,x < i):(l.map fun x=>ptr (tsN ts i b x))=l.map fun x=>ptr (ts x) :=
 List.map_congr_left fun x hx=>by have:=hl x hx;simp [tsN,show ¬ x=i by omega]
theorem range_tsN (ts:Nat→Nat) (i b:Nat):((List.range (i+1)).map fun x=>ptr (tsN ts i b x))=((List.range i).map fun x=>ptr (ts x)) ++ [ptr b]:=by
 rw [List.range_succ,List.map_append,map_tsN ts i b _ fun x hx=>List.mem_range.1 hx]
 simp [tsN]
theorem tunE_old (k:Wk) (ts:Nat→Nat) (fv fv':Nat→Value) (i b j:Nat) (hj:j < i) (hf:(k.v i).from_≠(j:Int)) (hv:fv' j=fv j):tunE k (tsN ts i b) fv' (i+1) j=tunE k ts fv i j:=by
 unfold tunE
 rw [fillsTo_miss k i j hf,map_tsN ts i b _ fun x hx=>fillsTo_lt k i j x hx,hv]
 simp [tsN,show ¬ j=i by omega]
theorem tunE_new (k:Wk) (hok:k.Ok) (ts:Nat→Nat) (fv':Nat→Value) (i b:Nat) (hi:i < k.n):tunE k (tsN ts i b) fv' (i+1) i =
  [.blk b 129 [.int .i64 (k.v i).from_,.int .i64 (k.v i).room,.int .i64 (k.v i).lo,.int .i64 (k.v i).hi,.int .i64 (i:Int),fv' i],.row (fv' i) 124 1 0 []]:=by
 unfold tunE
 rw [fillsTo_nil k hok (i+1) i (by omega) (by omega)]
 simp [tsN]
theorem tunE_hit (k:Wk) (ts:Nat→Nat) (fv':Nat→Value) (i b j:Nat) (hj:j < i) (hf:(k.v i).from_=(j:Int)):tunE k (tsN ts i b) fv' (i+1) j =
  [.blk (ts j) 129 [.int .i64 (k.v j).from_,.int .i64 (k.v j).room,.int .i64 (k.v j).lo,.int .i64 (k.v j).hi,.int .i64 (j:Int),fv' j],.row (fv' j) 124 1 ((fillsTo k i j).length+1) (((fillsTo k i j).map fun x=>ptr (ts x)) ++ [ptr b])]:=by
 unfold tunE
 rw [fillsTo_hit k i j hf,List.map_append,map_tsN ts i b _ fun x hx=>fillsTo_lt k i j x hx]
 simp [tsN,show ¬ j=i by omega]
set_option maxRecDepth 20000 in
set_option maxHeartbeats 4000000 in
theorem open_ok (V:View) (vv rv:Value) (k:Wk) (hk:WkIn V vv rv k) (hok:k.Ok) (w:World) (hV:V.In w) :
  Calls Tryd.prog 114 #[.agg #[vv,rv]] w fun r w'=>∃ p,r=.returned (.pointer (some ⟨p,0,none⟩))∧Kp w w'∧(newV V w w').In w'∧Cellar (newV V w w') p k∧∃ D,Closed (newV V w w') D∧p∈D:=by
 obtain ⟨D0,hD0,hD1,hD2⟩:=hk.cl
 have hcl:=fun b ts fv tv w'=>closed_of (V:=V) (w:=w) (w':=w') (k:=k) (vv:=vv) (rv:=rv) (tv:=tv) (b:=b) (ts:=ts) (fv:=fv) hV hD0 hD1 hD2
 clear hD0 hD1 hD2
 have hc:=fun b ts fv tv w'=>cel_of (V:=V) (w:=w) (w':=w') (k:=k) (vv:=vv) (rv:=rv) (tv:=tv) (b:=b) (ts:=ts) (fv:=fv) hV hok hk.ves hk.rdg
 obtain ⟨va,vcap,rfl,hvc,hvm,hve⟩:=hk.ves.is
 obtain ⟨ra,rcap,rfl,hrc,hrm,hre⟩:=hk.rdg.is
 obtain ⟨vg,vo,rfl,hvr⟩:=hve hok.pos
 have hn6:=hok.le
 have hpos:=hok.pos
 have hves:=hok.ves
 have hnil:=fillsTo_nil k hok
 have hS:=St.start w V hV
 clear hk hve hre
 go_enter Tryd.func114,Tryd.ntmps114
 go_wp2_with (first | (((with_reducible refine gL ?_);first | refine ql1 hS rfl rfl rfl ?_ | refine qln hS rfl rfl rfl ?_);refine ⟨_,zd,?_⟩;clear hS;(try clear w');intro a' hp;(try simp only [fr] at hp);subst hp;intro w' hS;(try simp only [sE] at hS)) | ((with_reducible refine gB ?_);refine qboxd 9 rfl hS rfl rfl rfl ?_;refine ⟨_,za,?_⟩;clear hS;(try clear w');intro b9;intro a' hp;(try simp only [fr] at hp);subst hp;intro w' hS) | (((with_reducible refine gB ?_);refine qbox hS rfl rfl rfl ?_;refine ⟨_,za,?_⟩);clear hS;(try clear w');intro _;intro a' hp;(try simp only [fr] at hp);subst hp;intro w' hS))
 have hS0:St w [] V ([.blk b9 112 [.slice (some ⟨vg,vo,none⟩) k.n vcap,.slice ra k.rdg.length rcap,.slice none 0 0],.row (.slice none 0 0) 124 1 0 ((List.range 0).map fun _=>ptr 0)] ++ tunsE k (fun _=>0) (fun _=>.bool true) 0 0) w':=by
  have h2:St w [] V [.blk b9 112 [.slice (some ⟨vg,vo,none⟩) k.n vcap,.slice ra k.rdg.length rcap,.slice none 0 0],.row (.slice none 0 0) 124 1 0 []] w':=((hS.nilRow 124 1).perm (List.Perm.swap _ _ _)).subI
  exact h2
 clear hS
 go_loopw [13] (fun iv wr=>∃ (i:Nat) (ts:Nat→Nat) (fv:Nat→Value) (tv:Value),i≤k.n∧iv=.int .i64 (i:Int) ∧
  St w [] V ([.blk b9 112 [.slice (some ⟨vg,vo,none⟩) k.n vcap,.slice ra k.rdg.length rcap,tv],.row tv 124 1 i ((List.range i).map fun x=>ptr (ts x))] ++ tunsE k ts fv i i) wr) (fun iv _=>k.n - (intOf iv).toNat)
 case atStart=>exact ⟨0,_,_,_,by omega,rfl,hS0⟩
 case round =>
  clear hS0
  obtain ⟨i,ts,fv,tv,hi,rfl,hS⟩:=hrel
  by_cases hlt:i < k.n
  ·have h0:(0:Int)≤i:=by omega
   have h1:(i:Int) < k.n:=by omega
   have hcell:=hvr i hlt
   have hcl:(k.v i).cells.length=4:=rfl
   have hvi:=hves i hlt
   unfold Ves.cells at hcell
   obtain ⟨R,hR⟩:∃ R,tunsE k ts fv i i=R:=⟨_,rfl⟩
   rw [hR] at hS
   simp only [List.cons_append,List.nil_append] at hS
   by_cases hfr:(k.v i).from_ < 0
   ·have hfr':¬ (0≤(k.v i).from_):=by omega
    replace hR:=mkHid hR
    go_wp2_with (first | (first | ((first | ((with_reducible refine gL ?_);first | refine ql1 hS rfl rfl rfl ?_ | refine qln hS rfl rfl rfl ?_ | refine qvn hS rfl rfl rfl ?_) | ((with_reducible refine gS ?_);first | refine qs1 hS rfl rfl rfl ?_ | refine qsall hS rfl rfl rfl ?_));refine ⟨_,zd,?_⟩;clear hS;(try clear w');intro a' hp;(try simp only [fr] at hp);subst hp;intro w' hS;(try simp only [sE] at hS)) | ((with_reducible refine gA ?_);refine qallocd 5 rfl hS rfl rfl ?_;clear hS;(try clear w');intro b5;intro a' hp;(try simp only [fr] at hp);subst hp;intro w' hS) | ((with_reducible refine gB ?_);refine qboxd 21 rfl hS rfl rfl rfl ?_;refine ⟨_,za,?_⟩;clear hS;(try clear w');intro b21;intro a' hp;(try simp only [fr] at hp);subst hp;intro w' hS)) | ((with_reducible refine gSl ?_);refine qbsl hS rfl rfl ?_;refine ⟨_,zq,zd,?_⟩;clear hS;(try clear w');intro _;intro a' hp;(try simp only [fr] at hp);subst hp;intro w' hS) | ((with_reducible refine gAp ?_);refine qap rfl rfl ?_;refine ⟨_,_,_,_,by exact rfl,by exact rfl,?_⟩;refine appG_of hS zd ?_;clear hS;(try clear w');intro va w' hS;intro a' hp;(try simp only [fr] at hp);subst hp;(try simp only [sE] at hS);have hva:=rowOne hS va))
    go_roundw
    case rel =>
     refine ⟨i+1,tsN ts i b21,fun x=>if x=i then .slice none 0 0 else fv x,va,by omega,by go_num,?_⟩
     have e2:tunsE k (tsN ts i b21) (fun x=>if x=i then .slice none 0 0 else fv x) (i+1) (i+1)=R ++ [.blk b21 129 [.int .i64 (k.v i).from_,.int .i64 (k.v i).room,.int .i64 (k.v i).lo,.int .i64 (k.v i).hi,.int .i64 (i:Int),.slice none 0 0],.row (.slice none 0 0) 124 1 0 []]:=by
      rw [tunsE_succ,tunE_new k hok ts _ i b21 hlt,← hR.out]
      simp only [if_true]
      congr 1
      exact tunsE_congr fun j hj=>tunE_old k ts fv _ i b21 j hj (by omega) (by simp [show ¬ j=i by omega])
     rw [e2,range_tsN]
     have hS2:=hS.nilRow 124 1
     have hS3:=hS2.sub (List.Sublist.cons_cons _ (List.Sublist.cons _ (List.Sublist.cons_cons _ (List.Sublist.cons _ (List.Sublist.refl _)))))
     exact hS3.perm (perm_end _ _ _ _ R)
    case measure=>simp only [intOf];omega
   ·obtain ⟨f,hf⟩:∃ f:Nat,(k.v i).from_=(f:Int):=⟨(k.v i).from_.toNat,by omega⟩
    have hfi:f < i:=by have:=hvi.2.1;omega
    have hf0:(0:Int)≤f:=by omega
    rw [hf] at hcell
    obtain ⟨R',hp1,hp2⟩:=tunsE_pick k ts fv i i f hfi
    rw [hR] at hp1
    have hfl:(fillsTo k i f).length≤6:=by have:=fillsTo_len k i f;omega
    replace hf:=mkHid hf
    clear hR hfr
    go_wp2_with (first | (first | ((first | ((with_reducible refine gL ?_);first | refine ql1 hS rfl rfl rfl ?_ | refine qln hS rfl rfl rfl ?_ | refine qvn hS rfl rfl rfl ?_) | ((with_reducible refine gS ?_);first | refine qs1 hS rfl rfl rfl ?_ | refine qsall hS rfl rfl rfl ?_));refine ⟨_,zd,?_⟩;clear hS;(try clear w');intro a' hp;(try simp only [fr] at hp);subst hp;intro w' hS;(try simp only [sE] at hS)) | ((with_reducible refine gA ?_);refine qallocd 5 rfl hS rfl rfl ?_;clear hS;(try clear w');intro b5;intro a' hp;(try simp only [fr] at hp);subst hp;intro w' hS) | ((with_reducible refine gB ?_);refine qboxd 21 rfl hS rfl rfl rfl ?_;refine ⟨_,za,?_⟩;clear hS;(try clear w');intro b21;intro a' hp;(try simp only [fr] at hp);subst hp;intro w' hS)) | ((with_reducible refine gSl ?_);refine qbsl hS rfl rfl ?_;refine ⟨_,zq,zd,?_⟩;clear hS;(try clear w');intro _;intro a' hp;(try simp only [fr] at hp);subst hp;intro w' hS) | ((with_reducible refine gAp ?_);refine qap rfl rfl ?_;refine ⟨_,_,_,_,by exact rfl,by exact rfl,?_⟩;refine appG_of hS zd ?_;clear hS;(try clear w');intro va w' hS;intro a' hp;(try simp only [fr] at hp);subst hp;(try simp only [sE] at hS);have hva:=rowOne hS va))
    replace hS:=hS.perm (List.Perm.append_left [_,_,_,_,_] hp1)
    simp only [tunE,List.cons_append,List.nil_append] at hS
    obtain ⟨g,cap,cur,rfl,hgc1,hgc2,_,_⟩:=row_slice (hS.atRow (j:=4) rfl) (by omega)
    have hfi1:(f:Int) < (i:Int)+1:=by omega
    have hrow:(List.map (fun x=>ptr (ts x)) (List.range i) ++ [Value.pointer (some ⟨b21,0,none⟩)])[f]? = some (.pointer (some ⟨ts f,0,none⟩)):=by
     rw [List.getElem?_append_left (by simpa using hfi)]
     simp [hfi,ptr]
    have hpos1:0 < i+1:=by omega
    (refine held_start (S:=(St w [] V [.blk b5 29 [.int .i64 f,.int .i64 (k.v i).room,.int .i64 (k.v i).lo,.int .i64 (k.v i).hi],.blk b9 112 [.slice (some ⟨vg,vo,none⟩) k.n vcap,.slice ra k.rdg.length rcap,.slice (some ⟨g,0,none⟩) (i+1) cap],.row (.slice (some ⟨g,0,none⟩) (i+1) cap) 124 1 (i+1) (List.map (fun x=>ptr (ts x)) (List.range i) ++ [Value.pointer (some ⟨b21,0,none⟩)])])) [false,false,false,false,false,false,false,false,false,false,false,false,false,false,false,false,false,false,false,false,false,false,false,false,false] rfl (by kernel_rfl) ?_;replace hS:=St.drew1 hS;(iterate 19 ((first | refine hxm 0 rfl ?_ | refine hxp 1 rfl ?_ | refine hxp 2 rfl ?_ | refine hxa 3 rfl ?_ | refine hxp 4 rfl ?_ | refine hxa 5 rfl ?_ | refine hxp 6 rfl ?_ | refine hxe 7 rfl ?_ | refine hxm 8 rfl ?_ | refine hxp 9 rfl ?_ | refine hxp 10 rfl ?_ | refine hxa 11 rfl ?_ | refine hxp 12 rfl ?_ | refine hxa 13 rfl ?_ | refine hxp 14 rfl ?_ | refine hxe 15 rfl ?_ | refine hxp 16 rfl ?_ | refine hxp 17 rfl ?_ | refine hxm 19 rfl ?_);intro a' l' hp hl;(try simp only [fr] at hp);(try simp only [sB] at hl);subst hp;subst hl));refine he_two 18 20 (by kernel_rfl) ?_ ?_;rotate_left;(refine we_bsl 20 rfl hS rfl  rfl ?_;refine ⟨_,zq,zd,?_⟩;clear hS;(try clear w');intro b55;intro a' l' hp hl;(try simp only [fr] at hp);(try simp only [sB] at hl);subst hp;subst hl;intro w' hS;refine ⟨(St.subI hS),?_⟩);(refine he_l1 18 (by kernel_rfl) rfl hS rfl rfl rfl ?_;refine ⟨_,zd,?_⟩;clear hS;(try clear w');intro a' l' hp hl;(try simp only [fr] at hp);(try simp only [sB] at hl);subst hp;subst hl;intro w' hS;refine ⟨(St.subI hS),?_⟩);(refine he_ap 21 (by kernel_rfl) rfl rfl rfl ?_;refine ⟨_,_,_,_,by exact rfl,by exact rfl,?_⟩;refine appG_of hS zd ?_;clear hS;(try clear w');intro v56 w' hS;intro a' l' hp hl;(try simp only [fr] at hp);(try simp only [sB] at hl);subst hp;subst hl;(try simp only [sE] at hS);have hv56:=rowOne hS v56;refine ⟨(St.subI hS),?_⟩);(iterate 2 ((first | refine hxp 22 rfl ?_ | refine hxp 23 rfl ?_);intro a' l' hp hl;(try simp only [fr] at hp);(try simp only [sB] at hl);subst hp;subst hl));((refine he_s1 24 (by kernel_rfl) rfl hS rfl  rfl rfl ?_;refine ⟨_,zd,?_⟩);clear hS;(try clear w');intro a' l' hp hl;(try simp only [fr] at hp);(try simp only [sB] at hl);subst hp;subst hl;intro w' hS;(try simp only [sE] at hS);refine ⟨(St.subI hS),?_⟩);refine wpAnyH_done (by kernel_rfl) ?_ _;rotate_left;(refine we_l1 18 rfl hS rfl  rfl rfl ?_;refine ⟨_,zd,?_⟩;clear hS;(try clear w');intro a' l' hp hl;(try simp only [fr] at hp);(try simp only [sB] at hl);subst hp;subst hl;intro w' hS;refine ⟨(St.subI hS),?_⟩);(refine he_bsl 20 (by kernel_rfl) rfl hS rfl  rfl ?_;refine ⟨_,zq,zd,?_⟩;clear hS;(try clear w');intro b55;intro a' l' hp hl;(try simp only [fr] at hp);(try simp only [sB] at hl);subst hp;subst hl;intro w' hS;refine ⟨(St.subI hS),?_⟩);(refine he_ap 21 (by kernel_rfl) rfl rfl rfl ?_;refine ⟨_,_,_,_,by exact rfl,by exact rfl,?_⟩;refine appG_of hS zd ?_;clear hS;(try clear w');intro v56 w' hS;intro a' l' hp hl;(try simp only [fr] at hp);(try simp only [sB] at hl);subst hp;subst hl;(try simp only [sE] at hS);have hv56:=rowOne hS v56;refine ⟨(St.subI hS),?_⟩);(iterate 2 ((first | refine hxp 22 rfl ?_ | refine hxp 23 rfl ?_);intro a' l' hp hl;(try simp only [fr] at hp);(try simp only [sB] at hl);subst hp;subst hl));((refine he_s1 24 (by kernel_rfl) rfl hS rfl  rfl rfl ?_;refine ⟨_,zd,?_⟩);clear hS;(try clear w');intro a' l' hp hl;(try simp only [fr] at hp);(try simp only [sB] at hl);subst hp;subst hl;intro w' hS;(try simp only [sE] at hS);refine ⟨(St.subI hS),?_⟩);refine wpAnyH_done (by kernel_rfl) ?_ _)
    ·go_wp2_with (fail)
     go_roundw
     case rel =>
      refine ⟨i+1,tsN ts i b21,fun x=>if x=i then .slice none 0 0 else if x=f then v56 else fv x,.slice (some ⟨g,0,none⟩) (i+1) cap,by omega,by go_num,?_⟩
      have e2:tunsE k (tsN ts i b21) (fun x=>if x=i then .slice none 0 0 else if x=f then v56 else fv x) (i+1) (i+1)=tunsE k (tsN ts i b21) (fun x=>if x=i then .slice none 0 0 else if x=f then v56 else fv x) (i+1) i ++
        [.blk b21 129 [.int .i64 (f:Int),.int .i64 (k.v i).room,.int .i64 (k.v i).lo,.int .i64 (k.v i).hi,.int .i64 (i:Int),.slice none 0 0],.row (.slice none 0 0) 124 1 0 []]:=by
       rw [tunsE_succ,tunE_new k hok ts _ i b21 hlt,hf.out]
       simp only [if_true]
      have hp:=hp2 (tsN ts i b21) (fun x=>if x=i then .slice none 0 0 else if x=f then v56 else fv x) (i+1) (fun x hx hxf=>tunE_old k ts fv _ i b21 x hx (by rw [hf.out];omega) (by simp [show ¬ x=i by omega,hxf]))
      rw [tunE_hit k ts _ i b21 f hfi hf.out] at hp
      simp only [show ¬ f=i by omega,if_false,if_true] at hp
      rw [e2,range_tsN]
      have hS2:=hS.nilRow 124 1
      have hS3:=hS2.sub (List.Sublist.cons_cons _ (List.Sublist.cons _ (List.Sublist.cons _ (List.Sublist.cons_cons _ (List.Sublist.cons _ (List.Sublist.refl _))))))
      have hS4:=hS3.perm (perm_end _ _ _ _ _)
      exact hS4.perm (((hp.symm.append_right _).cons _).cons _)
     case measure=>simp only [intOf];omega
    ·go_wp2_with (fail)
     go_roundw
     case rel =>
      refine ⟨i+1,tsN ts i b21,fun x=>if x=i then .slice none 0 0 else if x=f then v56 else fv x,.slice (some ⟨g,0,none⟩) (i+1) cap,by omega,by go_num,?_⟩
      have e2:tunsE k (tsN ts i b21) (fun x=>if x=i then .slice none 0 0 else if x=f then v56 else fv x) (i+1) (i+1)=tunsE k (tsN ts i b21) (fun x=>if x=i then .slice none 0 0 else if x=f then v56 else fv x) (i+1) i ++
        [.blk b21 129 [.int .i64 (f:Int),.int .i64 (k.v i).room,.int .i64 (k.v i).lo,.int .i64 (k.v i).hi,.int .i64 (i:Int),.slice none 0 0],.row (.slice none 0 0) 124 1 0 []]:=by
       rw [tunsE_succ,tunE_new k hok ts _ i b21 hlt,hf.out]
       simp only [if_true]
      have hp:=hp2 (tsN ts i b21) (fun x=>if x=i then .slice none 0 0 else if x=f then v56 else fv x) (i+1) (fun x hx hxf=>tunE_old k ts fv _ i b21 x hx (by rw [hf.out];omega) (by simp [show ¬ x=i by omega,hxf]))
      rw [tunE_hit k ts _ i b21 f hfi hf.out] at hp
      simp only [show ¬ f=i by omega,if_false,if_true] at hp
      rw [e2,range_tsN]
      have hS2:=hS.nilRow 124 1
      have hS3:=hS2.sub (List.Sublist.cons_cons _ (List.Sublist.cons _ (List.Sublist.cons _ (List.Sublist.cons_cons _ (List.Sublist.cons _ (List.Sublist.refl _))))))
      have hS4:=hS3.perm (perm_end _ _ _ _ _)
      exact hS4.perm (((hp.symm.append_right _).cons _).cons _)
     case measure=>simp only [intOf];omega
  ·obtain rfl:i=k.n:=by omega
   go_wp2_with (fail)
   go_ret
   exact ⟨b9,rfl,hS.toKp,newV_in hS.view,hc _ _ _ _ _ hS,hcl _ _ _ _ _ hS⟩
end Go.Proofs.YtjjmefieegcddaaDoor
namespace Go.Proofs.YtjjmefieegcddaaDoor
open Go.RowKit Go.Wg Go.Mm
theorem fills_gt {k:Wk} (hok:k.Ok) {i x:Nat} (hx:x∈k.fills i):i < x∧x < k.n:=by
 have h:=List.mem_filter.1 hx
 have hn:=List.mem_range.1 h.1
 have hf:(k.v x).from_=(i:Int):=by simpa using h.2
 have:=(hok.ves x hn).2.1
 omega
theorem spread_ok (V:View) (p:Nat) (k:Wk) (ts:List Nat) (vv rv:Value) (hC:Cel V p k ts vv rv) (hok:k.Ok) (s:SS) (hs:s.WF) (hlo:∀ i,0≤(s.losAt i).1) (hhi:∀ i,(s.losAt i).2≤1000) (st:Bool) :
  ∀ (f i:Nat),f≤6→i < k.n→k.n - i≤f→∀ (w:World),V.In w →
  Calls Tryd.prog 124 #[ptr (ts.getD i 0),.agg (stC s).toArray,.bool st] w fun r w'=>∃ g,r=.returned (.pointer (some ⟨g,0,none⟩))∧Kp w w'∧w.heap.size≤g∧w'.heap[g]? = some (.cells (grC (spreadF k s st f i)).toArray 170 (0,0)):=by
 intro f
 induction f with
 | zero=>intro i _ hi hf;omega
 | succ f ih =>
  intro i h6 hi hf w hV
  by_cases hfl:k.fills i=[]
  ·have:=spread_leaf V p k ts vv rv hC s hs st i hi hfl w hV
   rw [spreadF,if_pos hfl]
   exact this
  ·rw [spreadF,if_neg hfl]
   refine spread_inner V p k ts vv rv hC s hs st i hi hfl (spreadF k s st f) 11764900 (by decide) (by decide) (fun x hx=>⟨spreadF_wf k s st hlo f x,(spreadF_bd k hok.le s st hlo f x).mono ?_⟩) (hlo i) (hhi i) (fun x hx=>?_) w hV
   ·have h7:(7:Int) ^ f≤7 ^ 6:=by
     have:(7:Nat) ^ f≤7 ^ 6:=Nat.pow_le_pow_right (by decide) (by omega)
     exact_mod_cast this
    have e:(7:Int) ^ 6=117649:=by decide
    omega
   ·obtain ⟨h1,h2⟩:=fills_gt hok hx
    exact ih x (by omega) h2 (by omega)
end Go.Proofs.YtjjmefieegcddaaDoor
