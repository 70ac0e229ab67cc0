/- A part of the proof: W79, W80. -/
import Derived.Test.YtjjmefieegcddaaDoorA32
import Derived.Test.YtjjmefieegcddaaDoorA34
set_option linter.unusedVariables false
set_option linter.unusedSimpArgs false
namespace Go.Proofs.YtjjmefieegcddaaDoor
open Go.RowKit Go.Wg Go.Mm Go.Wk
open Go Go.Sr Go.Ph Go.Tm Go.Conc
variable {w:World} {V:View}
noncomputable def B10:Code:=match Tryd.f10.body with | some c=>c | none=>.skip
noncomputable def E10:Code:=match B10 with | .seq _ (.seq _ (.seq _ (.seq _ (.seq _ r))))=>r | _=>.skip
noncomputable def ops10:Array Oper:=match E10 with | .seq (.region _ o _) _=>o | _=>#[]
theorem calls_thieves {w0:World} {X:List Nat} {L:List Ent} {vv rv:Value} {k:Wk} {R:Ending→World→Prop} {l:List Int} {e:Int} (hS:St w0 X V L w) (hB:Bs V) (hk:WkIn V vv rv k) (hv:thievesE k=(l,e))
  (h:∀ (V':View) (v:Value) (w':World),(∀ j o,V j=some o→V' j=some o)→VI V' v l→v.oneCell'=true→St w0 X V' L w'→R (.returned (.tuple #[v,.int .i64 e])) w'):Calls Tryd.prog 49 #[.agg #[vv,rv]] w R:=by
 have hc:=Thieves_ok vv rv k hk hB.gv hS.view
 rw [hv] at hc
 exact calls_ints hS hc h
theorem calls_can {w0:World} {X:List Nat} {L:List Ent} {vv rv:Value} {k:Wk} {R:Ending→World→Prop} {t:Bool} {e:Int} (hS:St w0 X V L w) (hB:Bs V) (hk:WkIn V vv rv k) (hv:canE k=(t,e))
  (h:∀ w',St w0 X V L w'→R (.returned (.tuple #[.bool t,.int .i64 e])) w'):Calls Tryd.prog 25 #[.agg #[vv,rv]] w R:=by
 have hc:=Can_ok vv rv k hk hB.gv hS.view
 rw [hv] at hc
 exact calls_by hS ⟨_,hc,h⟩
theorem thieves_val {k:Wk} (h:k.Ok):thievesE k=(thievesTo k k.n,0):=by
 unfold thievesE
 rw [if_pos (beginE_ok h [] (fun _ h=>nomatch h))]
theorem beyond_val {k:Wk} (h:k.Ok) {v:Nat} (hv:v < k.n):beyondE k (v:Int)=match beyondS k v with | some n=>((n:Int),0) | none=>(0,11):=by
 unfold beyondE
 rw [if_pos (beginE_ok h [(v:Int)] (fun n hn=>by rw [List.mem_singleton] at hn;omega))]
 rfl
theorem can_val {k:Wk} (h:k.Ok) {v:Nat} (hv:v < k.n) {q:Nat} (hq:(k.v v).hi+q≤20) (hq4:q≤40):canE (k.more v q)=((match beyondS k v with | some m=>decide (m≤q) | none=>false),0):=by
 unfold canE
 have h6:=h.le
 rw [if_pos (beginE_ok (more_ok h hv hq) [] (fun _ h=>nomatch h)),can_more k hv h.le,beyond_iff k (by omega) hq4]
 rfl
theorem beyond_le {k:Wk} {v n:Nat} (h:beyondS k v=some n):n≤40:=by
 unfold beyondS at h
 rw [List.find?_range_eq_some] at h
 have:=h.2.1
 have:=List.mem_range.1 this
 omega
theorem sl_one {v:Value} {n sz:Nat} {get:Nat→List Value} (h:VSl V v n sz get):v.oneCell'=true:=by
 obtain ⟨a,cap,rfl,_⟩:=h.is
 rfl
def St10 (w:World) (a:Act) (w':World):Prop:=(∃ f:Nat→Value,a=⟨#[f 0,f 1,f 2,f 3,f 4,f 5,f 6,f 7,f 8,f 9,f 10,f 11,f 12,f 13,f 14,f 15,f 16,f 17,f 18,f 19,f 20,f 21,f 22,f 23,f 24,f 25,f 26,f 27,f 28,f 29,f 30,f 31,f 32,f 33,f 34,f 35,f 36,f 37,f 38,f 39,f 40,f 41,f 42,f 43,f 44,f 45,f 46,f 47,f 48,f 49,f 50,f 51,f 52,f 53,f 54,f 55,f 56,f 57,f 58,f 59,f 60,f 61,f 62,f 63,f 64,f 65,f 66,f 67,f 68,f 69,f 70,f 71,f 72,f 73,f 74,f 75,f 76,f 77,f 78,f 79,f 80,f 81,f 82,f 83,f 84,f 85,f 86,f 87,f 88,f 89,f 90,f 91,f 92,f 93,f 94,f 95,f 96,f 97,f 98,f 99,f 100,f 101],[]⟩)∧Kp w w'
set_option maxRecDepth 40000 in
set_option maxHeartbeats 8000000 in
theorem stolen1 {lv:Value} {l:List Int} (hB:Bs V) (hg:Go.Wg.gN≤w.heap.size) (hl:VI V lv l) (hV:V.In w):Rch Tryd.prog [.inRegion ops10 [0,1],.code .ret] (St10 w) [.code B10] { tmps:=#[lv] ++ Array.replicate 101 undef,defers:=[] } w:=by
 have hS:=St.start w V hV
 obtain ⟨la,lcap,hlv,hlc,hlm,hle⟩:=hl.is
 clear hle hlc hlm
 subst hlv
 simp only [Array.replicate_succ,Array.replicate_zero,List.push_toArray,List.append_toArray,List.nil_append,List.cons_append]
 refine rch_seq (rch_code ?_)
 go_wp2_with (fail)
 refine rch_seq (rch_code ?_)
 go_wp2_with (first | (first | (((with_reducible refine gS ?_);refine qsall hS rfl rfl rfl ?_);refine ⟨_,zd,?_⟩;clear hS;(try clear w');intro a' hp;(try simp only [fr] at hp);subst hp;intro w' hS;(try simp only [sE] at hS)) | ((with_reducible refine gA ?_);refine qallocd 3 rfl hS rfl rfl ?_;clear hS;(try clear w');intro b3;intro a' hp;(try simp only [fr] at hp);subst hp;intro w' hS)) | (go_at_call 23;refine calls_new hS ⟨_,_,NewHat_ok ⟨_,_,_,rfl⟩,?_⟩;clear hS;(try clear w');intro bh w' hS) |
  (go_at_call 33;refine (WorksOf_ok (V:=V) ⟨⟨l,hl⟩,by decide,by decide⟩ (by decide) (by decide) (by decide) (St.view hS) (hS.off _ (List.mem_cons_self ..) bh rfl) (St.has1 hS)).mono ?_;rintro _ w1 ⟨k,vv,rv,c1,s1,rfl,hok,hkn,hrl,k1,k2,hS1⟩;obtain ⟨V1,hV1,hS2,hk⟩:=works_view (hS.comp (j:=0) rfl (hS1.perm (List.perm_append_comm (l₁:=[_,_]) (l₂:=[_])))) hg hB ⟨hok.pos,by have:=hok.le;omega,by omega⟩;clear hS hS1;(try clear w');have hS:=hS2;clear hS2;have hone2:=two_one (sl_one hk.ves) (sl_one hk.rdg)))
 have hB1:Bs V1:=hB.mono hV1
 have hk6:=hok.le
 have hk0:=hok.pos
 have hkk:=hk
 obtain ⟨va,vcap,hvv,hvc,hvm,hve⟩:=hkk.ves.is
 subst hvv
 obtain ⟨vg,vo,hva,hvr⟩:=hve hk0
 subst hva
 obtain ⟨V1',hV1',hc1,hS2⟩:=pin hS
 clear hS
 have hS:=hS2
 clear hS2 hkk hve
 refine rch_seq (rch_code ?_)
 have hB1':Bs V1':=hB1.mono hV1'
 have hk1:=wkIn_mono hk hV1'
 have hr3:V1'.Range b3 0 [.slice (some ⟨vg,vo,none⟩) k.n vcap,rv]:=fun j v hj=>by rw [Nat.zero_add];exact hc1 j v hj
 have hr3':([Value.slice (some ⟨vg,vo,none⟩) k.n vcap,rv]).length=2:=rfl
 go_wp2_with (first | (((with_reducible refine gL ?_);refine qvn hS rfl rfl rfl ?_);refine ⟨_,zd,?_⟩;clear hS;(try clear w');intro a' hp;(try simp only [fr] at hp);subst hp;intro w' hS;(try simp only [sE] at hS)) | (go_at_call 49;refine calls_thieves hS hB1' hk1 (thieves_val hok) ?_;clear hS;(try clear w');intro V2 v1 w' hV2 hv1 hone hS))
 have hB2:Bs V2:=hB1'.mono hV2
 have hk2:=wkIn_mono hk1 hV2
 have hrr:V2.Range b3 0 [.slice (some ⟨vg,vo,none⟩) k.n vcap,rv]:=hr3.mono hV2
 have hc3:V2.Cell b3 0 (.slice (some ⟨vg,vo,none⟩) k.n vcap):=(hc1 0 _ rfl).mono hV2
 have hvr2:∀ i,i < k.n→V2.Range vg (vo+i * 4) (k.v i).cells:=fun i hi=>((hvr i hi).mono hV1').mono hV2
 have hvl:(thievesTo k k.n).length≤100:=by have:=thievesTo_len k k.n;omega
 clear hr3 hc1 hvr hk1 hk hB1 hB1' hB hV
 refine rch_seq (rch_code ?_)
 go_wp2_with (fail)
 refine rch_seq (rch_code ?_)
 go_wp2_with (fail)
 go_loopw [6] (fun iv wr=>∃ v:Nat,v≤k.n∧iv=.int .i64 (v:Int)∧St w [] V2 [] wr) (fun iv _=>k.n - (intOf iv).toNat)
 case atStart=>exact ⟨0,by omega,rfl,hS.subI⟩
 case round =>
  clear hS
  obtain ⟨v,hvn,rfl,hS⟩:=hrel
  have h0v:(0:Int)≤v:=by omega
  by_cases hlt:v < k.n
  ·have hlt':(v:Int) < k.n:=by omega
   have hbv:=beyond_val hok hlt
   obtain ⟨_,_,_,_,_,_,hh0,hh1,_⟩:=hok.ves v hlt
   have hcell:V2.Cell vg (vo+v * 4+2+1) (.int .i64 (k.v v).hi):=hvr2 v hlt 3 _ rfl
   have hmo:∀ (q:Nat),(k.v v).hi+q≤20→∀ w,V2.In w→Calls Tryd.prog 56 #[.agg #[.slice (some ⟨vg,vo,none⟩) k.n vcap,rv],.int .i64 (v:Int),.int .i64 (q:Int)] w fun e w'=>∃ vv',e=.returned (.agg #[vv',rv])∧St w [] V2 [.row vv' 29 4 (k.more v q).ves.length (vesC (k.more v q).ves)] w':=fun q hq w hV=>by
    refine (More_ok hk2 hlt hk6 ⟨hh0,hq⟩ hV).mono fun e w' ⟨vv',he,hS⟩=>⟨vv',he,?_⟩
    rw [show (k.more v q).ves.length=k.n from more_n k v q]
    exact hS
   have hcv:∀ (q:Nat),(k.v v).hi+q≤20→q≤40→canE (k.more v q)=((match beyondS k v with | some m=>decide (m≤q) | none=>false),0):=fun q h1 h2=>can_val hok hlt h1 h2
   generalize (k.v v).hi=h0 at hh0 hh1 hcell hmo hcv
   cases hb:beyondS k v with
   | some n =>
    rw [hb] at hbv hcv
    simp only at hbv hcv
    have hn40:=beyond_le hb
    have hn40':(n:Int)≤40:=by omega
    have hn00:(0:Int)≤n:=by omega
    replace hmo:=mkHid hmo;replace hcv:=mkHid hcv
    by_cases hn0:0 < n
    ·have hn0':(0:Int) < n:=by omega
     go_wp2_with (first | (((with_reducible refine gL ?_);first | refine qv1 hS rfl rfl rfl ?_ | refine qvn hS rfl rfl rfl ?_);refine ⟨_,zd,?_⟩;clear hS;(try clear w');intro a' hp;(try simp only [fr] at hp);subst hp;intro w' hS;(try simp only [sE] at hS)) | (go_at_call 51;refine calls_beyond hS hB2 hk2 hbv ?_;clear hS;(try clear w');intro w' hS) | (go_at_call 37;refine (Find_ok hv1 hvl _ (St.view hS)).mono ?_;rintro _ w1 ⟨x,rfl,hx,hkp⟩;replace hS:=hS.kp hkp;clear hkp;rw [mem_thieves] at hx;have hx':0≤x:=hx.2 ⟨hlt,n,hb,hn0⟩;clear hx))
     go_loopw [9] (fun iv wr=>∃ q:Nat,iv=.int .i64 (q:Int)∧h0+q≤21∧St w [] V2 [] wr) (fun iv _=>21 - (intOf iv).toNat)
     case atStart=>exact ⟨0,rfl,by omega,hS.subI⟩
     case round =>
      clear hS
      obtain ⟨q,rfl,hq,hS⟩:=hrel
      have h0q:(0:Int)≤q:=by omega
      by_cases hq20:h0+q≤20
      ·have hm:=hmo.out q hq20
       have hcn:=hcv.out q hq20 (by omega)
       by_cases hnq:n≤q
       ·rw [decide_eq_true hnq] at hcn
        have hnq':(n:Int)≤q:=by omega
        go_wp2_with (first | (((with_reducible refine gL ?_);first | refine qv1 hS rfl rfl rfl ?_ | refine qvn hS rfl rfl rfl ?_);refine ⟨_,zd,?_⟩;clear hS;(try clear w');intro a' hp;(try simp only [fr] at hp);subst hp;intro w' hS;(try simp only [sE] at hS)) | (go_at_call 56;refine (hm _ (St.view hS)).mono ?_;rintro _ w1 ⟨vv',rfl,hS1⟩;obtain ⟨V3,hV3,hS2,hk3⟩:=vessels_view (l:=(k.more v q).ves) (k:=k) (hS.comp0 hS1) hg hk2 (by rw [show (k.more v q).ves.length=k.n from more_n k v q];omega);clear hS hS1;(try clear w');have hS:=hS2;clear hS2;have hk3':WkIn V3 vv' rv (k.more v q):=hk3) | (go_at_call 25;refine calls_can hS (hB2.mono hV3) hk3' hcn ?_;clear hS;(try clear w');intro w' hS))
        go_roundw
        case rel=>exact ⟨q+1,by go_num,by omega,hS.weaken hV3⟩
        case measure=>simp only [intOf];omega
       ·rw [decide_eq_false hnq] at hcn
        have hnq':¬ (n:Int)≤q:=by omega
        go_wp2_with (first | (((with_reducible refine gL ?_);first | refine qv1 hS rfl rfl rfl ?_ | refine qvn hS rfl rfl rfl ?_);refine ⟨_,zd,?_⟩;clear hS;(try clear w');intro a' hp;(try simp only [fr] at hp);subst hp;intro w' hS;(try simp only [sE] at hS)) | (go_at_call 56;refine (hm _ (St.view hS)).mono ?_;rintro _ w1 ⟨vv',rfl,hS1⟩;obtain ⟨V3,hV3,hS2,hk3⟩:=vessels_view (l:=(k.more v q).ves) (k:=k) (hS.comp0 hS1) hg hk2 (by rw [show (k.more v q).ves.length=k.n from more_n k v q];omega);clear hS hS1;(try clear w');have hS:=hS2;clear hS2;have hk3':WkIn V3 vv' rv (k.more v q):=hk3) | (go_at_call 25;refine calls_can hS (hB2.mono hV3) hk3' hcn ?_;clear hS;(try clear w');intro w' hS))
        go_roundw
        case rel=>exact ⟨q+1,by go_num,by omega,hS.weaken hV3⟩
        case measure=>simp only [intOf];omega
      ·go_wp2_with (((with_reducible refine gL ?_);refine qv1 hS rfl rfl rfl ?_);refine ⟨_,zd,?_⟩;clear hS;(try clear w');intro a' hp;(try simp only [fr] at hp);subst hp;intro w' hS;(try simp only [sE] at hS))
       go_roundw
       case rel=>exact ⟨v+1,by omega,by go_num,hS⟩
       case measure=>simp only [intOf];omega
    ·obtain rfl:n=0:=by omega
     go_wp2_with (first | (((with_reducible refine gL ?_);first | refine qv1 hS rfl rfl rfl ?_ | refine qvn hS rfl rfl rfl ?_);refine ⟨_,zd,?_⟩;clear hS;(try clear w');intro a' hp;(try simp only [fr] at hp);subst hp;intro w' hS;(try simp only [sE] at hS)) | (go_at_call 51;refine calls_beyond hS hB2 hk2 hbv ?_;clear hS;(try clear w');intro w' hS) | (go_at_call 37;refine (Find_ok hv1 hvl _ (St.view hS)).mono ?_;rintro _ w1 ⟨x,rfl,hx,hkp⟩;replace hS:=hS.kp hkp;clear hkp;rw [mem_thieves] at hx;have hx':¬ 0≤x:=(fun h=>by obtain ⟨_,m,hm,hm0⟩:=hx.1 h;rw [hb] at hm;cases hm;omega);clear hx))
     go_loopw [9] (fun iv wr=>∃ q:Nat,iv=.int .i64 (q:Int)∧h0+q≤21∧St w [] V2 [] wr) (fun iv _=>21 - (intOf iv).toNat)
     case atStart=>exact ⟨0,rfl,by omega,hS.subI⟩
     case round =>
      clear hS
      obtain ⟨q,rfl,hq,hS⟩:=hrel
      have h0q:(0:Int)≤q:=by omega
      by_cases hq20:h0+q≤20
      ·have hm:=hmo.out q hq20
       have hcn:=hcv.out q hq20 (by omega)
       have hnq:0≤q:=by omega
       rw [decide_eq_true hnq] at hcn
       have hnq':((0:Nat):Int)≤q:=by omega
       go_wp2_with (first | (((with_reducible refine gL ?_);first | refine qv1 hS rfl rfl rfl ?_ | refine qvn hS rfl rfl rfl ?_);refine ⟨_,zd,?_⟩;clear hS;(try clear w');intro a' hp;(try simp only [fr] at hp);subst hp;intro w' hS;(try simp only [sE] at hS)) | (go_at_call 56;refine (hm _ (St.view hS)).mono ?_;rintro _ w1 ⟨vv',rfl,hS1⟩;obtain ⟨V3,hV3,hS2,hk3⟩:=vessels_view (l:=(k.more v q).ves) (k:=k) (hS.comp0 hS1) hg hk2 (by rw [show (k.more v q).ves.length=k.n from more_n k v q];omega);clear hS hS1;(try clear w');have hS:=hS2;clear hS2;have hk3':WkIn V3 vv' rv (k.more v q):=hk3) | (go_at_call 25;refine calls_can hS (hB2.mono hV3) hk3' hcn ?_;clear hS;(try clear w');intro w' hS))
       go_roundw
       case rel=>exact ⟨q+1,by go_num,by omega,hS.weaken hV3⟩
       case measure=>simp only [intOf];omega
      ·go_wp2_with (((with_reducible refine gL ?_);refine qv1 hS rfl rfl rfl ?_);refine ⟨_,zd,?_⟩;clear hS;(try clear w');intro a' hp;(try simp only [fr] at hp);subst hp;intro w' hS;(try simp only [sE] at hS))
       go_roundw
       case rel=>exact ⟨v+1,by omega,by go_num,hS⟩
       case measure=>simp only [intOf];omega
   | none =>
    rw [hb] at hbv hcv
    simp only at hbv hcv
    replace hmo:=mkHid hmo;replace hcv:=mkHid hcv
    go_wp2_with (first | (((with_reducible refine gL ?_);first | refine qv1 hS rfl rfl rfl ?_ | refine qvn hS rfl rfl rfl ?_);refine ⟨_,zd,?_⟩;clear hS;(try clear w');intro a' hp;(try simp only [fr] at hp);subst hp;intro w' hS;(try simp only [sE] at hS)) | (go_at_call 51;refine calls_beyond hS hB2 hk2 hbv ?_;clear hS;(try clear w');intro w' hS) | (go_at_call 37;refine (Find_ok hv1 hvl _ (St.view hS)).mono ?_;rintro _ w1 ⟨x,rfl,hx,hkp⟩;replace hS:=hS.kp hkp;clear hkp;rw [mem_thieves] at hx;have hx':¬ 0≤x:=(fun h=>by obtain ⟨_,m,hm,hm0⟩:=hx.1 h;rw [hb] at hm;cases hm);clear hx))
    go_loopw [9] (fun iv wr=>∃ q:Nat,iv=.int .i64 (q:Int)∧h0+q≤21∧St w [] V2 [] wr) (fun iv _=>21 - (intOf iv).toNat)
    case atStart=>exact ⟨0,rfl,by omega,hS.subI⟩
    case round =>
     clear hS
     obtain ⟨q,rfl,hq,hS⟩:=hrel
     have h0q:(0:Int)≤q:=by omega
     by_cases hq20:h0+q≤20
     ·have hm:=hmo.out q hq20
      have hcn:=hcv.out q hq20 (by omega)
      go_wp2_with (first | (((with_reducible refine gL ?_);first | refine qv1 hS rfl rfl rfl ?_ | refine qvn hS rfl rfl rfl ?_);refine ⟨_,zd,?_⟩;clear hS;(try clear w');intro a' hp;(try simp only [fr] at hp);subst hp;intro w' hS;(try simp only [sE] at hS)) | (go_at_call 56;refine (hm _ (St.view hS)).mono ?_;rintro _ w1 ⟨vv',rfl,hS1⟩;obtain ⟨V3,hV3,hS2,hk3⟩:=vessels_view (l:=(k.more v q).ves) (k:=k) (hS.comp0 hS1) hg hk2 (by rw [show (k.more v q).ves.length=k.n from more_n k v q];omega);clear hS hS1;(try clear w');have hS:=hS2;clear hS2;have hk3':WkIn V3 vv' rv (k.more v q):=hk3) | (go_at_call 25;refine calls_can hS (hB2.mono hV3) hk3' hcn ?_;clear hS;(try clear w');intro w' hS))
      go_roundw
      case rel=>exact ⟨q+1,by go_num,by omega,hS.weaken hV3⟩
      case measure=>simp only [intOf];omega
     ·go_wp2_with (((with_reducible refine gL ?_);refine qv1 hS rfl rfl rfl ?_);refine ⟨_,zd,?_⟩;clear hS;(try clear w');intro a' hp;(try simp only [fr] at hp);subst hp;intro w' hS;(try simp only [sE] at hS))
      go_roundw
      case rel=>exact ⟨v+1,by omega,by go_num,hS⟩
      case measure=>simp only [intOf];omega
  ·obtain rfl:v=k.n:=by omega
   go_wp2_with (((with_reducible refine gL ?_);refine qv1 hS rfl rfl rfl ?_);refine ⟨_,zd,?_⟩;clear hS;(try clear w');intro a' hp;(try simp only [fr] at hp);subst hp;intro w' hS;(try simp only [sE] at hS))
   refine rch_seq (rch_region ?_)
   have key:∀ a:Act,a=⟨#[a.tmps.getD 0 undef,a.tmps.getD 1 undef,a.tmps.getD 2 undef,a.tmps.getD 3 undef,a.tmps.getD 4 undef,a.tmps.getD 5 undef,a.tmps.getD 6 undef,a.tmps.getD 7 undef,a.tmps.getD 8 undef,a.tmps.getD 9 undef,a.tmps.getD 10 undef,a.tmps.getD 11 undef,a.tmps.getD 12 undef,a.tmps.getD 13 undef,a.tmps.getD 14 undef,a.tmps.getD 15 undef,a.tmps.getD 16 undef,a.tmps.getD 17 undef,a.tmps.getD 18 undef,a.tmps.getD 19 undef,a.tmps.getD 20 undef,a.tmps.getD 21 undef,a.tmps.getD 22 undef,a.tmps.getD 23 undef,a.tmps.getD 24 undef,a.tmps.getD 25 undef,a.tmps.getD 26 undef,a.tmps.getD 27 undef,a.tmps.getD 28 undef,a.tmps.getD 29 undef,a.tmps.getD 30 undef,a.tmps.getD 31 undef,a.tmps.getD 32 undef,a.tmps.getD 33 undef,a.tmps.getD 34 undef,a.tmps.getD 35 undef,a.tmps.getD 36 undef,a.tmps.getD 37 undef,a.tmps.getD 38 undef,a.tmps.getD 39 undef,a.tmps.getD 40 undef,a.tmps.getD 41 undef,a.tmps.getD 42 undef,a.tmps.getD 43 undef,a.tmps.getD 44 undef,a.tmps.getD 45 undef,a.tmps.getD 46 undef,a.tmps.getD 47 undef,a.tmps.getD 48 undef,a.tmps.getD 49 undef,a.tmps.getD 50 undef,a.tmps.getD 51 undef,a.tmps.getD 52 undef,a.tmps.getD 53 undef,a.tmps.getD 54 undef,a.tmps.getD 55 undef,a.tmps.getD 56 undef,a.tmps.getD 57 undef,a.tmps.getD 58 undef,a.tmps.getD 59 undef,a.tmps.getD 60 undef,a.tmps.getD 61 undef,a.tmps.getD 62 undef,a.tmps.getD 63 undef,a.tmps.getD 64 undef,a.tmps.getD 65 undef,a.tmps.getD 66 undef,a.tmps.getD 67 undef,a.tmps.getD 68 undef,a.tmps.getD 69 undef,a.tmps.getD 70 undef,a.tmps.getD 71 undef,a.tmps.getD 72 undef,a.tmps.getD 73 undef,a.tmps.getD 74 undef,a.tmps.getD 75 undef,a.tmps.getD 76 undef,a.tmps.getD 77 undef,a.tmps.getD 78 undef,a.tmps.getD 79 undef,a.tmps.getD 80 undef,a.tmps.getD 81 undef,a.tmps.getD 82 undef,a.tmps.getD 83 undef,a.tmps.getD 84 undef,a.tmps.getD 85 undef,a.tmps.getD 86 undef,a.tmps.getD 87 undef,a.tmps.getD 88 undef,a.tmps.getD 89 undef,a.tmps.getD 90 undef,a.tmps.getD 91 undef,a.tmps.getD 92 undef,a.tmps.getD 93 undef,a.tmps.getD 94 undef,a.tmps.getD 95 undef,a.tmps.getD 96 undef,a.tmps.getD 97 undef,a.tmps.getD 98 undef,a.tmps.getD 99 undef,a.tmps.getD 100 undef,a.tmps.getD 101 undef],[]⟩→∀ w',Kp w w'→Rch Tryd.prog [.inRegion ops10 [0,1],.code .ret] (St10 w) [.inRegion ops10 [0,1],.code .ret] a w':=fun a ha w' hk=>rch_here ⟨⟨fun j=>a.tmps.getD j undef,ha⟩,hk⟩
   exact key _ rfl _ hS.toKp
end Go.Proofs.YtjjmefieegcddaaDoor
namespace Go.Proofs.YtjjmefieegcddaaDoor
open Go.RowKit Go.Wg Go.Mm Go.Wk
open Go Go.Sr Go.Ph Go.Tm Go.Conc
variable {w:World} {V:View}
theorem stolen2 (f:Nat→Value) (w:World):Rch Tryd.prog [.code .ret] (fun a w'=>a.tmps[2]? = some (.bool true)∧a.defers=[]∧Kp w w') [.inRegion ops10 [1],.code .ret] ⟨#[f 0,f 1,f 2,f 3,f 4,f 5,f 6,f 7,f 8,f 9,f 10,f 11,f 12,f 13,f 14,f 15,f 16,f 17,f 18,f 19,f 20,f 21,f 22,f 23,f 24,f 25,f 26,f 27,f 28,f 29,f 30,f 31,f 32,f 33,f 34,f 35,f 36,f 37,f 38,f 39,f 40,f 41,f 42,f 43,f 44,f 45,f 46,f 47,f 48,f 49,f 50,f 51,f 52,f 53,f 54,f 55,f 56,f 57,f 58,f 59,f 60,f 61,f 62,f 63,f 64,f 65,f 66,f 67,f 68,f 69,f 70,f 71,f 72,f 73,f 74,f 75,f 76,f 77,f 78,f 79,f 80,f 81,f 82,f 83,f 84,f 85,f 86,f 87,f 88,f 89,f 90,f 91,f 92,f 93,f 94,f 95,f 96,f 97,f 98,f 99,f 100,.bool true],[]⟩ w:=by
 refine rch_op (i:=1) (v:=.bool true) (w':=w) rfl rfl rfl ?_
 show Rch Tryd.prog [.code .ret] _ (.inRegion ops10 [] :: _) ⟨#[f 0,f 1,.bool true,f 3,f 4,f 5,f 6,f 7,f 8,f 9,f 10,f 11,f 12,f 13,f 14,f 15,f 16,f 17,f 18,f 19,f 20,f 21,f 22,f 23,f 24,f 25,f 26,f 27,f 28,f 29,f 30,f 31,f 32,f 33,f 34,f 35,f 36,f 37,f 38,f 39,f 40,f 41,f 42,f 43,f 44,f 45,f 46,f 47,f 48,f 49,f 50,f 51,f 52,f 53,f 54,f 55,f 56,f 57,f 58,f 59,f 60,f 61,f 62,f 63,f 64,f 65,f 66,f 67,f 68,f 69,f 70,f 71,f 72,f 73,f 74,f 75,f 76,f 77,f 78,f 79,f 80,f 81,f 82,f 83,f 84,f 85,f 86,f 87,f 88,f 89,f 90,f 91,f 92,f 93,f 94,f 95,f 96,f 97,f 98,f 99,f 100,.bool true],[]⟩ _
 refine rch_region_end ?_
 exact rch_here (tgt:=[.code .ret]) ⟨rfl,rfl,Kp.refl _⟩
set_option maxRecDepth 20000 in
set_option maxHeartbeats 2000000 in
theorem stolen_B {lv:Value} {l:List Int} (hB:Bs V) (hg:Go.Wg.gN≤w.heap.size) (hl:VI V lv l) (hV:V.In w) (hh:HeapOk OC w):CallsB Tryd.prog 10 #[lv] w fun r w'=>r=.returned (.bool true)∧Kp w w':=by
 refine callsB_of_body Tryd.func10 (show Tryd.f10.body=some B10 from rfl) fun cs b hbf hbk hbr=>?_
 have e101:Tryd.f10.ntmps - (#[lv]:Array Value).size=101:=by kernel_rfl
 rw [e101]
 obtain ⟨tm0,htm⟩:∃ tm0,(#[lv]:Array Value) ++ Array.replicate 101 undef=tm0:=⟨_,rfl⟩
 rw [htm]
 refine toBN (tgt:=[.inRegion ops10 [0,1],.code .ret]) hbf hbk (show [Item.code B10].all itemO=true by kernel_rfl) (fun d hd=>nomatch hd) hh (S:=St10 w)
  (fun a w' τ d h=>⟨h.1,kp_re1 h.2 τ d⟩) (fun τ d=>?_) ?_
 ·rw [← htm]
  refine (stolen1 (w:=w.re τ d) hB hg hl hV).mono ?_
  rintro a w' ⟨h1,h2⟩
  exact ⟨h1,kp_re0 h2⟩
 rintro a w1 ⟨⟨f,rfl⟩,hk1⟩ hh1
 have hW:=weighed_B hB (hV.kp hk1) hh1
 refine toB_co (i:=0) (o:=ops10[0]!) hW hh1 hbk rfl rfl rfl (fun w=>?_) (fun ch w h=>nomatch h.1) ?_
 ·rw [run_call_body rfl Tryd.func21 (by kernel_rfl) rfl]
  simp only [List.map_toArray,List.map_cons,List.map_nil]
 rintro v w2 ⟨hv,hk2⟩ hh2
 cases hv
 show ToB Tryd.prog (G (b.at ⟨#[f 0,f 1,f 2,f 3,f 4,f 5,f 6,f 7,f 8,f 9,f 10,f 11,f 12,f 13,f 14,f 15,f 16,f 17,f 18,f 19,f 20,f 21,f 22,f 23,f 24,f 25,f 26,f 27,f 28,f 29,f 30,f 31,f 32,f 33,f 34,f 35,f 36,f 37,f 38,f 39,f 40,f 41,f 42,f 43,f 44,f 45,f 46,f 47,f 48,f 49,f 50,f 51,f 52,f 53,f 54,f 55,f 56,f 57,f 58,f 59,f 60,f 61,f 62,f 63,f 64,f 65,f 66,f 67,f 68,f 69,f 70,f 71,f 72,f 73,f 74,f 75,f 76,f 77,f 78,f 79,f 80,f 81,f 82,f 83,f 84,f 85,f 86,f 87,f 88,f 89,f 90,f 91,f 92,f 93,f 94,f 95,f 96,f 97,f 98,f 99,f 100,.bool true],[]⟩ (.inRegion ops10 [1] :: [.code .ret])) cs) w2 _
 refine toBN (tgt:=[.code .ret]) hbf hbk (by kernel_rfl) (fun d hd=>nomatch hd) hh2 (S:=fun a w'=>a.tmps[2]? = some (.bool true)∧a.defers=[]∧Kp w2 w')
  (fun a w' τ d h=>⟨h.1,h.2.1,kp_re1 h.2.2 τ d⟩) (fun τ d=>?_) ?_
 ·refine (stolen2 f (w2.re τ d)).mono ?_
  rintro a w' ⟨h1,h2,h3⟩
  exact ⟨h1,h2,kp_re0 h3⟩
 rintro a w3 ⟨h0,hd,hk3⟩ hh3
 have g:a.tmps.getD 2 undef=.bool true:=by
  rw [Array.getD_eq_getD_getElem?,h0]
  rfl
 refine ret_of (v:=.bool true) hbf hbk hd Tryd.func10 hh3 ?_ ⟨rfl,(hk1.trans hk2).trans hk3⟩ ins_kp
 have h:=results_tmp (fn:=Tryd.f10) (t:=2) (by kernel_rfl) a.tmps Tryd.prog w3
 rw [g] at h
 exact h
end Go.Proofs.YtjjmefieegcddaaDoor
