/- A part of the proof: W57, W58, W59, W60. -/
import Derived.Test.YtjjmefieegcddaaDoorA27
import Derived.Scope
import Derived.Deep.OwnRows
import Derived.Shelf.Abstract
set_option linter.unusedVariables false
set_option linter.unusedSimpArgs false
namespace Go.Proofs.YtjjmefieegcddaaDoor
open Go.RowKit Go.Wg Go.Mm Go.Wk
open Go Go.Sr Go.Ph Go.Tm Go.Conc
variable {w:World} {V:View}
noncomputable def B34:Code:=match Tryd.f34.body with | some c=>c | none=>.skip
noncomputable def K6:Code:=match B34 with | .seq _ (.seq _ (.seq _ (.seq _ (.seq _ r))))=>r | _=>.skip
noncomputable def KL:Code:=match K6 with | .seq (.seq _ (.block _ (.loop l))) _=>l | _=>.skip
noncomputable def KT:Code:=match K6 with | .seq _ r=>r | _=>.skip
noncomputable def KSc:Code:=match KL with | .seq _ (.seq _ (.seq (.block _ (.seq _ (.scope c))) _))=>c | _=>.skip
noncomputable def KR18:Code:=match KL with | .seq _ (.seq _ (.seq _ c))=>c | _=>.skip
noncomputable def KA:Code:=match KSc with | .seq _ (.seq _ (.block _ (.rangeFunc _ _ a _)))=>a | _=>.skip
noncomputable def KB:Code:=match KSc with | .seq _ (.seq _ (.block _ (.rangeFunc _ _ _ b)))=>b | _=>.skip
noncomputable def KIL:Code:=match KB with | .block _ (.seq _ (.seq (.seq _ (.block _ (.loop l))) _))=>l | _=>.skip
noncomputable def KR17:Code:=match KB with | .block _ (.seq _ (.seq _ c))=>c | _=>.skip
set_option maxRecDepth 20000 in
set_option maxHeartbeats 4000000 in
theorem knot_inner {lr lb b7 kb tx x:Nat} {k:Wk} {l pre:List Nat} {ts fl:List Nat} {w0:World} {fa:Option Addr} {fcap:Nat} {p:Nat} {vv rv:Value} (hC:Cel V p k ts vv rv) (hl6:l.length=6) (hlb:V.Range lb 0 (limC l)) (hb7:V.Cell b7 0 (.slice (some ⟨kb,0,none⟩) k.n k.n))
  (hx:x < k.n) (hn6:k.n≤6) (hnum:V.Cell tx 4 (.int .i64 (x:Int))) (hfl:k.fills x=fl) (hfl2:fl.length≤6) (hx0:l.getD x 0=0)
  (hfe:0 < fl.length→∃ g off,fa=some ⟨g,off,none⟩∧∀ i,i < fl.length→V.Range g (off+i * 1) [ptr (ts.getD (fl.getD i 0) 0)]) :
  ∀ (m q:Nat),q+m=fl.length→(∀ j,j < q→l.getD (fl.getD j 0) 0≠0)→∀ (w:World) (f:Nat→Value),St w0 [] V [.blk kb 4 (knC k l pre)] w →
   RchR Tryd.prog (some lr) [] (fun _ w'=>St w0 [] V [.blk kb 4 (knC k l (pre ++ [x]))] w') [.code KIL,.inLoop KIL,.inBlock 4,.code KR17,.inBlock 3]
    ⟨#[f 0,f 1,f 2,f 3,f 4,f 5,.pointer (some ⟨lb,0,none⟩),.pointer (some ⟨b7,0,none⟩),f 8,f 9,.pointer (some ⟨tx,0,none⟩),f 11,f 12,f 13,f 14,f 15,f 16,f 17,f 18,f 19,f 20,f 21,f 22,f 23,f 24,f 25,f 26,f 27,f 28,f 29,f 30,f 31,f 32,f 33,f 34,f 35,f 36,f 37,f 38,f 39,f 40,f 41,f 42,f 43,f 44,f 45,f 46,f 47,f 48,f 49,f 50,f 51,f 52,f 53,.slice fa fl.length fcap,.int .i64 fl.length,.int .i64 q,f 57,f 58,f 59,f 60,f 61,f 62,f 63,f 64,f 65,f 66,f 67,f 68,f 69,f 70,f 71,f 72,f 73,f 74,f 75,f 76,f 77,f 78,f 79,f 80,f 81,f 82,f 83,f 84,f 85,f 86,f 87,f 88],[]⟩ w:=by
 intro m
 induction m with
 | zero =>
  intro q hq hall w f hS
  obtain rfl:q=fl.length:=by omega
  have hkn:knotB k l x=true:=by
   unfold knotB
   rw [hx0,hfl]
   simp only [beq_self_eq_true,Bool.true_and,List.all_eq_true]
   intro y hy
   obtain ⟨j,hj,rfl⟩:=List.getElem_of_mem hy
   have e:fl.getD j 0=fl[j]:=by simp [List.getD_eq_getElem?_getD,hj]
   have:=hall j hj
   rw [e] at this
   simpa using this
  have HS:=knC_hit k l pre hx hkn
  have HN:=knC_len k l pre
  have h0:(0:Int)≤x:=by omega
  have h1:(x:Int) < k.n:=by omega
  replace HS:=mkHid HS
  clear hall hkn hfe
  refine rr_seq (rr_list rfl ?_)
  go_wp2_with (fail)
  refine rr_seq (rr_cond (t:=false) rfl (rr_exit rfl ?_))
  (refine rr_draw (S0:=(St w0 [] V [])) [false,false,false,false,false,false,false] rfl (by kernel_rfl) rfl ?_;replace hS:=St.drew1 hS;(iterate 6 ((first | refine hxc 0 rfl ?_ | refine hxm 1 rfl ?_ | refine hxp 2 rfl ?_ | refine hxp 3 rfl ?_ | refine hxc 4 rfl ?_ | refine hxp 5 rfl ?_);intro a' l' hp hl;(try simp only [fr] at hp);(try simp only [sB] at hl);subst hp;subst hl));(((refine he_s1 6 (by kernel_rfl) rfl hS rfl  rfl rfl ?_;refine ⟨_,zd,?_⟩));clear hS;(try clear w');intro a' l' hp hl;(try simp only [fr] at hp);(try simp only [sB] at hl);subst hp;subst hl;intro w' hS;(try simp only [sE] at hS);refine ⟨(St.subI hS),?_⟩);refine wpAnyH_done (by kernel_rfl) ?_ _)
  refine ⟨rfl,?_⟩
  refine rr_inBlock (rr_here (tgt:=[]) ?_)
  rw [← HS.out]
  exact hS
 | succ m ih =>
  intro q hq hall w f hS
  have hql:q < fl.length:=by omega
  have hq1:(q:Int) < fl.length:=by omega
  have hq0:(0:Int)≤q:=by omega
  obtain ⟨fg,fo,rfl,hfr⟩:=hfe (by omega)
  have hpx:=hfr q hql 0 _ rfl
  simp only [Nat.mul_one,Nat.add_zero] at hpx
  have hym:fl.getD q 0∈k.fills x:=by
   rw [hfl,List.getD_eq_getElem?_getD,List.getElem?_eq_getElem hql]
   exact List.getElem_mem _
  have hyn:fl.getD q 0 < k.n:=List.mem_range.1 (List.mem_filter.1 hym).1
  have hlast:∀ j,j < q+1→l.getD (fl.getD q 0) 0≠0→l.getD (fl.getD j 0) 0≠0:=fun j hj h=>by
   rcases Nat.lt_succ_iff_lt_or_eq.1 hj with h1 | rfl
   ·exact hall j h1
   ·exact h
  have hihq:=fun (h:l.getD (fl.getD q 0) 0≠0)=>ih (q+1) (by omega) (fun j hj=>hlast j hj h)
  have hmiss:l.getD (fl.getD q 0) 0=0→knotB k l x=false:=fun h=>by
   unfold knotB
   rw [Bool.and_eq_false_iff]
   refine .inr ?_
   rw [List.all_eq_false]
   exact ⟨_,hym,by rw [h];decide⟩
  have hty:=hC.tun _ hyn 4 _ rfl
  simp only [Nat.zero_add] at hty
  generalize hgy:fl.getD q 0=y at hpx hyn hihq hmiss hty
  generalize ts.getD y 0=ty at hpx hty
  have hy6:(y:Int) < 6:=by omega
  have hy0:(0:Int)≤y:=by omega
  have hly:=hlb y (.int .u64 (l.getD y 0:Nat)) (limC_get (l:=l) (i:=y) (by omega))
  rw [Nat.zero_add] at hly
  clear hfr hall hlast ih hfe
  unfold ptr at hpx
  refine rr_seq (rr_list rfl ?_)
  go_wp2_with (fail)
  refine rr_seq (rr_cond (t:=true) rfl (rr_skip ?_))
  refine rr_seq (rr_block (rr_seq (rr_list rfl ?_)))
  go_wp2_with (((with_reducible refine gL ?_);refine qv1 hS rfl rfl rfl ?_);refine ⟨_,zd,?_⟩;clear hS;(try clear w');intro a' hp;(try simp only [fr] at hp);subst hp;intro w' hS;(try simp only [sE] at hS))
  refine rr_seq (rr_list rfl ?_)
  by_cases hz:l.getD y 0=0
  ·rw [hz] at hly
   have HM:=knC_miss k l pre (hmiss hz)
   clear hihq hmiss
   go_wp2_with (((with_reducible refine gL ?_);refine qv1 hS rfl rfl rfl ?_);refine ⟨_,zd,?_⟩;clear hS;(try clear w');intro a' hp;(try simp only [fr] at hp);subst hp;intro w' hS;(try simp only [sE] at hS))
   refine rr_cond (t:=true) rfl (rr_exit rfl (rr_here (tgt:=[]) ?_))
   rw [← HM]
   exact hS
  ·have hih:=hihq hz
   have hzb:(((l.getD y 0:Nat):Int) == 0)=false:=by rw [beq_eq_false_iff_ne];omega
   clear hihq hmiss
   generalize l.getD y 0=ly at hly hz hzb
   go_wp2_with (((with_reducible refine gL ?_);refine qv1 hS rfl rfl rfl ?_);refine ⟨_,zd,?_⟩;clear hS;(try clear w');intro a' hp;(try simp only [fr] at hp);subst hp;intro w' hS;(try simp only [sE] at hS))
   refine rr_cond (t:=false) rfl (rr_skip (rr_inBlock ?_))
   refine rr_list rfl ?_
   go_wp2_with (fail)
   refine rr_inLoop ?_
   have key:∀ (a:Act) (u:World),St w0 [] V [.blk kb 4 (knC k l pre)] u→a=⟨#[a.tmps.getD 0 undef,a.tmps.getD 1 undef,a.tmps.getD 2 undef,a.tmps.getD 3 undef,a.tmps.getD 4 undef,a.tmps.getD 5 undef,.pointer (some ⟨lb,0,none⟩),.pointer (some ⟨b7,0,none⟩),a.tmps.getD 8 undef,a.tmps.getD 9 undef,.pointer (some ⟨tx,0,none⟩),a.tmps.getD 11 undef,a.tmps.getD 12 undef,a.tmps.getD 13 undef,a.tmps.getD 14 undef,a.tmps.getD 15 undef,a.tmps.getD 16 undef,a.tmps.getD 17 undef,a.tmps.getD 18 undef,a.tmps.getD 19 undef,a.tmps.getD 20 undef,a.tmps.getD 21 undef,a.tmps.getD 22 undef,a.tmps.getD 23 undef,a.tmps.getD 24 undef,a.tmps.getD 25 undef,a.tmps.getD 26 undef,a.tmps.getD 27 undef,a.tmps.getD 28 undef,a.tmps.getD 29 undef,a.tmps.getD 30 undef,a.tmps.getD 31 undef,a.tmps.getD 32 undef,a.tmps.getD 33 undef,a.tmps.getD 34 undef,a.tmps.getD 35 undef,a.tmps.getD 36 undef,a.tmps.getD 37 undef,a.tmps.getD 38 undef,a.tmps.getD 39 undef,a.tmps.getD 40 undef,a.tmps.getD 41 undef,a.tmps.getD 42 undef,a.tmps.getD 43 undef,a.tmps.getD 44 undef,a.tmps.getD 45 undef,a.tmps.getD 46 undef,a.tmps.getD 47 undef,a.tmps.getD 48 undef,a.tmps.getD 49 undef,a.tmps.getD 50 undef,a.tmps.getD 51 undef,a.tmps.getD 52 undef,a.tmps.getD 53 undef,.slice (some ⟨fg,fo,none⟩) fl.length fcap,.int .i64 fl.length,.int .i64 ((q:Int)+1),a.tmps.getD 57 undef,a.tmps.getD 58 undef,a.tmps.getD 59 undef,a.tmps.getD 60 undef,a.tmps.getD 61 undef,a.tmps.getD 62 undef,a.tmps.getD 63 undef,a.tmps.getD 64 undef,a.tmps.getD 65 undef,a.tmps.getD 66 undef,a.tmps.getD 67 undef,a.tmps.getD 68 undef,a.tmps.getD 69 undef,a.tmps.getD 70 undef,a.tmps.getD 71 undef,a.tmps.getD 72 undef,a.tmps.getD 73 undef,a.tmps.getD 74 undef,a.tmps.getD 75 undef,a.tmps.getD 76 undef,a.tmps.getD 77 undef,a.tmps.getD 78 undef,a.tmps.getD 79 undef,a.tmps.getD 80 undef,a.tmps.getD 81 undef,a.tmps.getD 82 undef,a.tmps.getD 83 undef,a.tmps.getD 84 undef,a.tmps.getD 85 undef,a.tmps.getD 86 undef,a.tmps.getD 87 undef,a.tmps.getD 88 undef],[]⟩→RchR Tryd.prog (some lr) [] (fun _ w'=>St w0 [] V [.blk kb 4 (knC k l (pre ++ [x]))] w') [.code KIL,.inLoop KIL,.inBlock 4,.code KR17,.inBlock 3] a u:=fun a u hS ha=>by
    have h1:=hih _ (fun j=>a.tmps.getD j undef) hS
    rw [ha]
    exact h1
   exact key _ _ hS rfl
end Go.Proofs.YtjjmefieegcddaaDoor
namespace Go.Proofs.YtjjmefieegcddaaDoor
open Go.RowKit Go.Wg Go.Mm Go.Wk
open Go Go.Sr Go.Ph Go.Tm Go.Conc
variable {w:World} {V:View}
def tmK (v6 v7:Value) (f:Nat→Value):Array Value:=#[f 0,f 1,f 2,f 3,f 4,f 5,v6,v7,f 8,f 9,f 10,f 11,f 12,f 13,f 14,f 15,f 16,f 17,f 18,f 19,f 20,f 21,f 22,f 23,f 24,f 25,f 26,f 27,f 28,f 29,f 30,f 31,f 32,f 33,f 34,f 35,f 36,f 37,f 38,f 39,f 40,f 41,f 42,f 43,f 44,f 45,f 46,f 47,f 48,f 49,f 50,f 51,f 52,f 53,f 54,f 55,f 56,f 57,f 58,f 59,f 60,f 61,f 62,f 63,f 64,f 65,f 66,f 67,f 68,f 69,f 70,f 71,f 72,f 73,f 74,f 75,f 76,f 77,f 78,f 79,f 80,f 81,f 82,f 83,f 84,f 85,f 86,f 87,f 88]
theorem fold1 (p:Tmp) (v:Value) (T:Array Value):((#[p]:Array Tmp).zip #[v]).foldl (fun (t:Array Value) (q:Tmp × Value)=>t.setIfInBounds q.1 q.2) T=T.setIfInBounds p v:=by
 first | rfl | simp
set_option maxRecDepth 20000 in
set_option maxHeartbeats 4000000 in
theorem knot_round {fn lr lb b7 kb D p:Nat} {k:Wk} {l ts:List Nat} {w0:World} {vv rv:Value} (f:Nat→Value) (hC:Cel V p k ts vv rv) (hl6:l.length=6) (hlb:V.Range lb 0 (limC l)) (hb7:V.Cell b7 0 (.slice (some ⟨kb,0,none⟩) k.n k.n))
  (hlr:w0.heap.size≤lr) (hrec:V lr=some (.loop (recOf fn (tmK (ptr lb) (ptr b7) f) #[43] KA KB D .ready none))) :
  RoundAt w0 V kb (knC k l) lr (recOf fn (tmK (ptr lb) (ptr b7) f) #[43] KA KB D .ready none) k.n ts:=by
 intro V' hV' pre x w hx hS
 have hrec':=hV' _ _ hrec
 have hn6:=hC.le
 have hC1:=(hC.mono hV').mono (V':=V') fun _ _ h=>h
 have hsw:=fun {w:World} (h:St w0 [] V' [.blk kb 4 (knC k l pre)] w)=>st_swap h hlr hrec' (.loop (recOf fn (tmK (ptr lb) (ptr b7) f) #[43] KA KB D .busy none))
 have hV1lr:∀ j u,V j=some u→j≠lr→Vw V' lr (.loop (recOf fn (tmK (ptr lb) (ptr b7) f) #[43] KA KB D .busy none)) j=some u:=fun j u h hj=>by
  rw [Vw.other _ _ hj];exact hV' j u h
 have hcel:∀ {b i:Nat} {v:Value},V.Cell b i v→(Vw V' lr (.loop (recOf fn (tmK (ptr lb) (ptr b7) f) #[43] KA KB D .busy none))).Cell b i v:=fun {b i v} ⟨cs,t,fz,h1,h2⟩=>by
  refine ⟨cs,t,fz,hV1lr b _ h1 ?_,h2⟩
  rintro rfl
  rw [hrec] at h1
  cases h1
 have hfin:∀ {w2:World} {cc:List Value},St w0 [] (Vw V' lr (.loop (recOf fn (tmK (ptr lb) (ptr b7) f) #[43] KA KB D .busy none))) [.blk kb 4 cc] w2 →
   ∃ w3,(Instr.endRound lr none).run Tryd.prog w2=.ok (.bool true) w3∧St w0 [] V' [.blk kb 4 cc] w3:=fun {w2 cc} h =>
  ⟨_,run_endRound none (h.view lr _ (Vw.same _ _ _)),(st_swap h hlr (Vw.same _ _ _) _).weaken (Vw.back hrec')⟩
 obtain ⟨fv,hf5,hfs⟩:=hC.fil x hx
 obtain ⟨fa,fcap,rfl,hfc,hfm,hfe⟩:=hfs.is
 have hfl2:(k.fills x).length≤6:=by
  have:=fills_len k x
  omega
 have hnum:=hcel (hC.tun x hx 4 _ rfl)
 simp only [Nat.zero_add] at hnum
 have hf5':=hcel hf5
 have hlx:=hcel (hlb x (.int .u64 (l.getD x 0:Nat)) (limC_get (l:=l) (i:=x) (by omega)))
 rw [Nat.zero_add] at hlx
 have hb7':=hcel hb7
 have hcelC:Cel (Vw V' lr (.loop (recOf fn (tmK (ptr lb) (ptr b7) f) #[43] KA KB D .busy none))) p k ts vv rv:=by
  have sl:∀ {v n sz get},VSl V v n sz get→VSl (Vw V' lr (.loop (recOf fn (tmK (ptr lb) (ptr b7) f) #[43] KA KB D .busy none))) v n sz get:=fun ⟨a,cap,h1,h2,h3,h4⟩ =>
   ⟨a,cap,h1,h2,h3,fun hn=>by obtain ⟨g,off,h5,h6⟩:=h4 hn;exact ⟨g,off,h5,fun i hi j v hj=>hcel (h6 i hi j v hj)⟩⟩
  refine ⟨hcel hC.c0,hcel hC.c1,?_,sl hC.ves,sl hC.rdg,fun i hi j v hj=>hcel (hC.tun i hi j v hj),fun i hi=>?_,hC.pos,hC.le⟩
  ·obtain ⟨g,cap,h1,h2⟩:=hC.c2
   exact ⟨g,cap,hcel h1,fun i hi=>hcel (h2 i hi)⟩
  ·obtain ⟨v,h1,h2⟩:=hC.fil i hi
   exact ⟨v,hcel h1,sl h2⟩
 have hlb':(Vw V' lr (.loop (recOf fn (tmK (ptr lb) (ptr b7) f) #[43] KA KB D .busy none))).Range lb 0 (limC l):=fun j v hj=>hcel (hlb j v hj)
 have hmiss:l.getD x 0≠0→knotB k l x=false:=fun h=>by
  unfold knotB
  rw [Bool.and_eq_false_iff]
  exact .inl (by simpa using h)
 have hfe':0 < (k.fills x).length→∃ g off,fa=some ⟨g,off,none⟩∧∀ i,i < (k.fills x).length→(Vw V' lr (.loop (recOf fn (tmK (ptr lb) (ptr b7) f) #[43] KA KB D .busy none))).Range g (off+i * 1) [ptr (ts.getD ((k.fills x).getD i 0) 0)]:=fun h=>by
  obtain ⟨g,off,h1,h2⟩:=hfe h
  exact ⟨g,off,h1,fun i hi j v hj=>hcel (h2 i hi j v hj)⟩
 have hin:=fun hz=>knot_inner (V:=Vw V' lr (.loop (recOf fn (tmK (ptr lb) (ptr b7) f) #[43] KA KB D .busy none))) (lr:=lr) (w0:=w0) (pre:=pre) (fcap:=fcap) hcelC hl6 hlb' hb7' hx hn6 hnum rfl hfl2 hz hfe' (k.fills x).length 0 (Nat.zero_add _) (fun j hj=>nomatch hj)
 have hrun:(Instr.beginRound lr).run Tryd.prog w=.ok () (w.putObj lr (.loop (recOf fn (tmK (ptr lb) (ptr b7) f) #[43] KA KB D .busy none))):=run_beginRound (P:=Tryd.prog) (hS.view lr _ hrec') rfl
 have hS1:=hsw hS
 generalize Vw V' lr (.loop (recOf fn (tmK (ptr lb) (ptr b7) f) #[43] KA KB D .busy none))=VB at *
 generalize w.putObj lr (.loop (recOf fn (tmK (ptr lb) (ptr b7) f) #[43] KA KB D .busy none))=w1 at *
 clear hfe hfe' hC hC1 hf5 hlb hb7 hV1lr hcelC hlb' hb7'
 generalize ts.getD x 0=tx at *
 have hx0:(0:Int)≤x:=by omega
 have hx6:(x:Int) < 6:=by omega
 have e43:=fold1 43 (ptr tx) (tmK (ptr lb) (ptr b7) f)
 have e44:(tmK (ptr lb) (ptr b7) f).setIfInBounds 43 (ptr tx)=#[f 0,f 1,f 2,f 3,f 4,f 5,.pointer (some ⟨lb,0,none⟩),.pointer (some ⟨b7,0,none⟩),f 8,f 9,f 10,f 11,f 12,f 13,f 14,f 15,f 16,f 17,f 18,f 19,f 20,f 21,f 22,f 23,f 24,f 25,f 26,f 27,f 28,f 29,f 30,f 31,f 32,f 33,f 34,f 35,f 36,f 37,f 38,f 39,f 40,f 41,f 42,.pointer (some ⟨tx,0,none⟩),f 44,f 45,f 46,f 47,f 48,f 49,f 50,f 51,f 52,f 53,f 54,f 55,f 56,f 57,f 58,f 59,f 60,f 61,f 62,f 63,f 64,f 65,f 66,f 67,f 68,f 69,f 70,f 71,f 72,f 73,f 74,f 75,f 76,f 77,f 78,f 79,f 80,f 81,f 82,f 83,f 84,f 85,f 86,f 87,f 88]:=rfl
 rw [e44] at e43
 show RchR Tryd.prog (some lr) [] _ [.code KA,.beginRound,.code KB] ⟨((#[43]:Array Tmp).zip #[ptr tx]).foldl (fun (t:Array Value) (q:Tmp × Value)=>t.setIfInBounds q.1 q.2) (tmK (ptr lb) (ptr b7) f),[]⟩ w
 rw [e43]
 refine rr_list rfl ?_
 go_wp2_with (fail)
 refine rr_beginRound hrun ?_
 clear hS hrun hsw
 have hS:=hS1
 clear hS1
 refine RchR.mono (S:=fun _ w'=>St w0 [] VB [.blk kb 4 (knC k l (pre ++ [x]))] w') ?_ fun a w2 h=>hfin h
 refine rr_block (rr_seq (rr_seq (rr_list rfl ?_)))
 by_cases hz:l.getD x 0=0
 ·have hin':=hin hz
  rw [hz] at hlx
  clear hin hmiss
  go_wp2_with (((with_reducible refine gL ?_);refine qv1 hS rfl rfl rfl ?_);refine ⟨_,zd,?_⟩;clear hS;(try clear w');intro a' hp;(try simp only [fr] at hp);subst hp;intro w' hS;(try simp only [sE] at hS))
  refine rr_cond (t:=false) rfl (rr_skip ?_)
  refine rr_seq (rr_seq (rr_list rfl ?_))
  go_wp2_with (((with_reducible refine gL ?_);refine qv1 hS rfl rfl rfl ?_);refine ⟨_,zd,?_⟩;clear hS;(try clear w');intro a' hp;(try simp only [fr] at hp);subst hp;intro w' hS;(try simp only [sE] at hS))
  refine rr_block (rr_loop ?_)
  have key:∀ (a:Act) (u:World),St w0 [] VB [.blk kb 4 (knC k l pre)] u→a=⟨#[a.tmps.getD 0 undef,a.tmps.getD 1 undef,a.tmps.getD 2 undef,a.tmps.getD 3 undef,a.tmps.getD 4 undef,a.tmps.getD 5 undef,.pointer (some ⟨lb,0,none⟩),.pointer (some ⟨b7,0,none⟩),a.tmps.getD 8 undef,a.tmps.getD 9 undef,.pointer (some ⟨tx,0,none⟩),a.tmps.getD 11 undef,a.tmps.getD 12 undef,a.tmps.getD 13 undef,a.tmps.getD 14 undef,a.tmps.getD 15 undef,a.tmps.getD 16 undef,a.tmps.getD 17 undef,a.tmps.getD 18 undef,a.tmps.getD 19 undef,a.tmps.getD 20 undef,a.tmps.getD 21 undef,a.tmps.getD 22 undef,a.tmps.getD 23 undef,a.tmps.getD 24 undef,a.tmps.getD 25 undef,a.tmps.getD 26 undef,a.tmps.getD 27 undef,a.tmps.getD 28 undef,a.tmps.getD 29 undef,a.tmps.getD 30 undef,a.tmps.getD 31 undef,a.tmps.getD 32 undef,a.tmps.getD 33 undef,a.tmps.getD 34 undef,a.tmps.getD 35 undef,a.tmps.getD 36 undef,a.tmps.getD 37 undef,a.tmps.getD 38 undef,a.tmps.getD 39 undef,a.tmps.getD 40 undef,a.tmps.getD 41 undef,a.tmps.getD 42 undef,a.tmps.getD 43 undef,a.tmps.getD 44 undef,a.tmps.getD 45 undef,a.tmps.getD 46 undef,a.tmps.getD 47 undef,a.tmps.getD 48 undef,a.tmps.getD 49 undef,a.tmps.getD 50 undef,a.tmps.getD 51 undef,a.tmps.getD 52 undef,a.tmps.getD 53 undef,.slice fa (k.fills x).length fcap,.int .i64 (k.fills x).length,.int .i64 (0:Nat),a.tmps.getD 57 undef,a.tmps.getD 58 undef,a.tmps.getD 59 undef,a.tmps.getD 60 undef,a.tmps.getD 61 undef,a.tmps.getD 62 undef,a.tmps.getD 63 undef,a.tmps.getD 64 undef,a.tmps.getD 65 undef,a.tmps.getD 66 undef,a.tmps.getD 67 undef,a.tmps.getD 68 undef,a.tmps.getD 69 undef,a.tmps.getD 70 undef,a.tmps.getD 71 undef,a.tmps.getD 72 undef,a.tmps.getD 73 undef,a.tmps.getD 74 undef,a.tmps.getD 75 undef,a.tmps.getD 76 undef,a.tmps.getD 77 undef,a.tmps.getD 78 undef,a.tmps.getD 79 undef,a.tmps.getD 80 undef,a.tmps.getD 81 undef,a.tmps.getD 82 undef,a.tmps.getD 83 undef,a.tmps.getD 84 undef,a.tmps.getD 85 undef,a.tmps.getD 86 undef,a.tmps.getD 87 undef,a.tmps.getD 88 undef],[]⟩ →
    RchR Tryd.prog (some lr) [] (fun _ w'=>St w0 [] VB [.blk kb 4 (knC k l (pre ++ [x]))] w') [.code KIL,.inLoop KIL,.inBlock 4,.code KR17,.inBlock 3] a u:=fun a u hS ha=>by
   have h1:=hin' _ (fun j=>a.tmps.getD j undef) hS
   rw [ha]
   exact h1
  exact key _ _ hS rfl
 ·have hzb:(((l.getD x 0:Nat):Int) != 0)=true:=by
   have:((l.getD x 0:Nat):Int)≠0:=by omega
   simpa using this
  have HM:=knC_miss k l pre (hmiss hz)
  clear hin hmiss
  generalize l.getD x 0=lx at hlx hz hzb
  have hz':¬ (lx:Int)=0:=by omega
  go_wp2_with (((with_reducible refine gL ?_);refine qv1 hS rfl rfl rfl ?_);refine ⟨_,zd,?_⟩;clear hS;(try clear w');intro a' hp;(try simp only [fr] at hp);subst hp;intro w' hS;(try simp only [sE] at hS))
  refine rr_cond (t:=true) rfl (rr_exit rfl (rr_here (tgt:=[]) ?_))
  rw [← HM]
  exact hS
end Go.Proofs.YtjjmefieegcddaaDoor
namespace Go.Proofs.YtjjmefieegcddaaDoor
open Go.RowKit Go.Wg Go.Mm Go.Wk
open Go Go.Sr Go.Ph Go.Tm Go.Conc
variable {w:World} {V:View}
theorem st_put {w0:World} {X:List Nat} {L:List Ent} (h:St w0 X V L w) (o:Obj):St w0 X (Vw V w.heap.size o) L (w.alloc o):=by
 have hlt:∀ e∈L,∀ b,e.foot=some b→b < w.heap.size:=fun e he b hb=>(h.has e he).lt hb
 have hold:∀ j,j < w.heap.size→(w.alloc o).heap[j]? = w.heap[j]?:=fun j hj=>heap_alloc_old w o hj
 refine ⟨h.os,h.output,?_,fun j hj hx=>?_,fun j u hj=>?_,fun e he=>?_,h.new,fun e he b hb=>?_,h.nd⟩
 ·have:=h.size
  show w0.heap.size≤(w.heap.push o).size
  simp
  omega
 ·rw [hold j (Nat.lt_of_lt_of_le hj h.size)]
  exact h.old j hj hx
 ·by_cases e:j=w.heap.size
  ·subst e
   rw [Vw.same] at hj
   cases hj
   show (w.heap.push o)[w.heap.size]? = _
   simp
  ·rw [Vw.other _ _ e] at hj
   have:=h.view j u hj
   rw [hold j (lt_of_heap this)]
   exact this
 ·exact (h.has e he).of_heap fun g hg=>hold g (hlt e he g hg)
 ·have:=hlt e he b hb
  rw [Vw.other _ _ (by omega)]
  exact h.off e he b hb
theorem st_none {w0:World} {X:List Nat} {L:List Ent} (h:St w0 X V L w) {j:Nat} (hj:w.heap.size≤j):V j=none:=by
 cases hv:V j with
 | none=>rfl
 | some o =>
  have:=lt_of_heap (h.view j o hv)
  omega
theorem st_view {w0:World} {X:List Nat} {L:List Ent} (h:St w0 X V L w) {g:Nat} {o:Obj} (hg:w.heap[g]? = some o) (hn:∀ e∈L,e.foot≠some g):St w0 X (Vw V g o) L w∧∀ j u,V j=some u→Vw V g o j=some u:=by
 refine ⟨⟨h.os,h.output,h.size,h.old,fun j u hj=>?_,h.has,h.new,fun e he b hb=>?_,h.nd⟩,fun j u hj=>?_⟩
 ·by_cases e:j=g
  ·subst e
   rw [Vw.same] at hj
   cases hj
   exact hg
  ·rw [Vw.other _ _ e] at hj
   exact h.view j u hj
 ·rw [Vw.other _ _ (fun e'=>hn e he (by rw [← e'];exact hb))]
  exact h.off e he b hb
 ·by_cases e:j=g
  ·subst e
   rw [Vw.same]
   have:=h.view j u hj
   rw [hg] at this
   exact this
  ·rw [Vw.other _ _ e]
   exact hj
theorem st_shut {w0:World} {X:List Nat} {L:List Ent} {ds:List Nat} (h:St w0 X V L w) (hd:∀ d∈ds,w0.heap.size≤d∧V d≠none):St w0 X (fun _=>none) L (shutAll ds w):=by
 refine ⟨shutAll_os.1.trans h.os,shutAll_os.2.trans h.output,by rw [shutAll_size];exact h.size,fun j hj hx=>?_,fun j u hj=>(nomatch hj),fun e he=>?_,h.new,fun _ _ _ _=>rfl,h.nd⟩
 ·rw [shutAll_other fun hm=>by have:=(hd j hm).1;omega]
  exact h.old j hj hx
 ·exact (h.has e he).of_heap fun g hg=>shutAll_other fun hm=>(hd g hm).2 (h.off e he g hg)
theorem rch_scope {tgt k:List Item} {S:Act→World→Prop} {a:Act} {c:Code} (h:Rch Tryd.prog tgt S (.code c :: .inScope c :: k) a w):Rch Tryd.prog tgt S (.code (.scope c) :: k) a w:=fun b cs hb=>by
 obtain ⟨a',w',h1,h2⟩:=h b cs hb
 exact ⟨a',w',h1,.head step_scope h2⟩
theorem rch_inScope {tgt k:List Item} {S:Act→World→Prop} {a:Act} {c:Code} (h:Rch Tryd.prog tgt S k a w):Rch Tryd.prog tgt S (.inScope c :: k) a w:=fun b cs hb=>by
 obtain ⟨a',w',h1,h2⟩:=h b cs hb
 exact ⟨a',w',h1,.head step_inScope h2⟩
theorem run_mk82 {o:Oper} {ρ:Operand→Value} {l c:Operand} (ho:o.op=.makeSlice 82 l c) {n:Nat} (hl:ρ l=.int .i64 (n:Int)) (hc:ρ c=.int .i64 (n:Int)) (hn:n≤1000) (w:World) :
  (execOp ρ o).run Tryd.prog w=.ok (.value (.slice (some ⟨w.heap.size,0,none⟩) n n)) (w.alloc (.cells (List.replicate n (.bool false)).toArray 4)):=by
 have h:=run_make_row' (P:=Tryd.prog) 82 4 (.bool false) 1 Tryd.underlying82 (by kernel_rfl) rfl .i64 .i64 n (by omega) (by omega) w
 have e:madeCells #[.bool false] n=(List.replicate n (.bool false)).toArray:=by
  apply Array.ext'
  rw [toList_madeCells_one]
 rw [e] at h
 unfold execOp
 simp [ho,hl,hc,h,Sem.run_bind,Result.andThen]
theorem qmk82 {w0:World} {X:List Nat} {L:List Ent} {ops:Array Oper} {o:Oper} {rest:List Oper} {a:Act} {Q:Exit→Act→World→Prop} (hS:St w0 X V L w) (hgd:Region.wanted o (yielded ops a.tmps)=true) {l c:Operand} (ho:o.op=.makeSlice 82 l c)
  {n:Nat} (hl:a.eval l=.int .i64 (n:Int)) (hc:a.eval c=.int .i64 (n:Int)) (hn:n≤1000)
  (h:∀ b a',a.put o.dst (.slice (some ⟨b,0,none⟩) n n)=a'→∀ w',St w0 X V (.blk b 4 (List.replicate n (.bool false)) :: L) w'→wpList Tryd.prog ops Q rest a' w'):wpList Tryd.prog ops Q (o :: rest) a w :=
 wpl_value hgd (run_mk82 ho hl hc hn w) (h _ _ rfl _ (hS.alloc 4 (List.replicate n (.bool false))))
set_option maxHeartbeats 1000000 in
theorem rch_branch {tgt k0:List Item} {S:Act→World→Prop} {p i lb b7 kb bt:Nat} {k:Wk} {l ts ds pre:List Nat} {w0:World} {vv rv:Value} {f:Nat→Value} (hC:Cel V p k ts vv rv) (hok:k.Ok) (hi:i < k.n) (hl6:l.length=6) (hlb:V.Range lb 0 (limC l)) (hb7:V.Cell b7 0 (.slice (some ⟨kb,0,none⟩) k.n k.n))
  (hf42:f 42=.func (.func 121) #[] #[ptr bt]) (hbt:V.Cell bt 0 (ptr (ts.getD i 0))) (hS:St w0 [] V [.blk kb 4 (knC k l pre)] w)
  (hk:∀ w',St w0 [] (Vw V w.heap.size (.deferred (some []))) [.blk kb 4 (knC k l (pre ++ brF k (k.n - i) i))] w'→Rch Tryd.prog tgt S k0 ⟨tmK (ptr lb) (ptr b7) f,marks (w.heap.size :: ds)⟩ w') :
  Rch Tryd.prog tgt S (.code (.rangeFunc (.tmp 42) #[43] KA KB) :: k0) ⟨tmK (ptr lb) (ptr b7) f,marks ds⟩ w:=by
 refine rch_rangeFunc (gf:=121) (lb:=#[ptr bt]) hf42 (Go.Proofs.enters_of Tryd.func121 (by kernel_rfl) rfl) fun fn=>?_
 have hS1:=st_put (st_put hS (.deferred (some []))) (.loop (recOf fn (tmK (ptr lb) (ptr b7) f) #[43] KA KB w.heap.size .ready none))
 have hD:V w.heap.size=none:=st_none hS (Nat.le_refl _)
 have hl:(Vw V w.heap.size (.deferred (some []))) (w.alloc (.deferred (some []))).heap.size=none:=st_none (st_put hS (.deferred (some []))) (Nat.le_refl _)
 have hsub:∀ j u,V j=some u→Vw (Vw V w.heap.size (.deferred (some []))) (w.alloc (.deferred (some []))).heap.size (.loop (recOf fn (tmK (ptr lb) (ptr b7) f) #[43] KA KB w.heap.size .ready none)) j=some u:=fun j u hj=>Vw.sub hl j u (Vw.sub hD j u hj)
 have hsub2:∀ j u,(Vw V w.heap.size (.deferred (some []))) j=some u→Vw (Vw (Vw V w.heap.size (.deferred (some []))) (w.alloc (.deferred (some []))).heap.size (.loop (recOf fn (tmK (ptr lb) (ptr b7) f) #[43] KA KB w.heap.size .ready none))) (w.alloc (.deferred (some []))).heap.size (.loop (recOf fn (tmK (ptr lb) (ptr b7) f) #[43] KA KB w.heap.size .exhausted none)) j=some u:=fun j u hj=>by
  have hne:j≠(w.alloc (.deferred (some []))).heap.size:=by
   rintro rfl
   rw [hl] at hj
   cases hj
  rw [Vw.other _ _ hne,Vw.other _ _ hne]
  exact hj
 have hsz:(w.alloc (.deferred (some []))).heap.size=w.heap.size+1:=World.size_alloc _ _
 rw [hsz] at hS1 hsub hsub2
 have hlr:w0.heap.size≤w.heap.size+1:=by have:=hS.size;omega
 refine (iter_ok (hC.mono hsub) hok i hi (hbt.mono hsub) (Vw.same _ _ _) rfl (knot_round f (hC.mono hsub) hl6 (hlb.mono hsub) (hb7.mono hsub) hlr (Vw.same _ _ _)) pre hS1).mono ?_
 rintro e w3 ⟨v,rfl,hS3⟩
 refine ⟨v,rfl,hS3.view _ _ (Vw.same _ _ _),?_⟩
 exact hk _ ((st_swap hS3 hlr (Vw.same _ _ _) _).weaken hsub2)
structure KH (w0:World) (V V':View) (k:Wk) (l:List Nat) (kb m:Nat) (ds:List Nat) (w:World):Prop where
 sub:∀ j u,V j=some u→V' j=some u
 st:St w0 [] V' [.blk kb 4 (knC k l (brTo k m))] w
 nd:ds.Nodup
 ds:∀ d∈ds,w0.heap.size≤d∧V' d=some (.deferred (some []))
set_option maxRecDepth 20000 in
set_option maxHeartbeats 4000000 in
theorem knot_loop {S:Act→World→Prop} {p g cap lb b7 kb:Nat} {k:Wk} {l ts:List Nat} {w0:World} {vv rv:Value} (hC:Cel V p k ts vv rv) (hok:k.Ok) (hl6:l.length=6) (hlb:V.Range lb 0 (limC l)) (hb7:V.Cell b7 0 (.slice (some ⟨kb,0,none⟩) k.n k.n))
  (hsr:∀ m,m < k.sources.length→V.Cell g m (ptr (ts.getD (k.sources.getD m 0) 0))) (hsl:k.sources.length≤6) (hcap:k.sources.length≤cap)
  (hend:∀ V' ds w (f:Nat→Value),KH w0 V V' k l kb k.sources.length ds w→Rch Tryd.prog [.code .ret] S [.code KT] ⟨tmK (.pointer (some ⟨lb,0,none⟩)) (.pointer (some ⟨b7,0,none⟩)) f,marks ds⟩ w) :
  ∀ (c m:Nat),m+c=k.sources.length→∀ V' ds w (f:Nat→Value),KH w0 V V' k l kb m ds w→Rch Tryd.prog [.code .ret] S [.code KL,.inLoop KL,.inBlock 0,.code KT] ⟨#[f 0,f 1,f 2,f 3,f 4,f 5,.pointer (some ⟨lb,0,none⟩),.pointer (some ⟨b7,0,none⟩),f 8,f 9,f 10,f 11,f 12,f 13,f 14,f 15,f 16,f 17,f 18,f 19,f 20,f 21,f 22,f 23,f 24,f 25,f 26,f 27,f 28,f 29,f 30,f 31,f 32,f 33,f 34,.slice (some ⟨g,0,none⟩) k.sources.length cap,.int .i64 k.sources.length,.int .i64 (m:Int),f 38,f 39,f 40,f 41,f 42,f 43,f 44,f 45,f 46,f 47,f 48,f 49,f 50,f 51,f 52,f 53,f 54,f 55,f 56,f 57,f 58,f 59,f 60,f 61,f 62,f 63,f 64,f 65,f 66,f 67,f 68,f 69,f 70,f 71,f 72,f 73,f 74,f 75,f 76,f 77,f 78,f 79,f 80,f 81,f 82,f 83,f 84,f 85,f 86,f 87,f 88],marks ds⟩ w:=by
 intro c
 induction c with
 | zero =>
  intro m hm V' ds w f hK
  obtain rfl:m=k.sources.length:=by omega
  have hS:=hK.st
  have hend':=hend V' ds
  refine rch_seq (rch_code ?_)
  go_wp2_with (fail)
  refine rch_seq (rch_cond (t:=false) rfl (rch_exit rfl ?_))
  have key:∀ a:Act,a=⟨#[a.tmps.getD 0 undef,a.tmps.getD 1 undef,a.tmps.getD 2 undef,a.tmps.getD 3 undef,a.tmps.getD 4 undef,a.tmps.getD 5 undef,.pointer (some ⟨lb,0,none⟩),.pointer (some ⟨b7,0,none⟩),a.tmps.getD 8 undef,a.tmps.getD 9 undef,a.tmps.getD 10 undef,a.tmps.getD 11 undef,a.tmps.getD 12 undef,a.tmps.getD 13 undef,a.tmps.getD 14 undef,a.tmps.getD 15 undef,a.tmps.getD 16 undef,a.tmps.getD 17 undef,a.tmps.getD 18 undef,a.tmps.getD 19 undef,a.tmps.getD 20 undef,a.tmps.getD 21 undef,a.tmps.getD 22 undef,a.tmps.getD 23 undef,a.tmps.getD 24 undef,a.tmps.getD 25 undef,a.tmps.getD 26 undef,a.tmps.getD 27 undef,a.tmps.getD 28 undef,a.tmps.getD 29 undef,a.tmps.getD 30 undef,a.tmps.getD 31 undef,a.tmps.getD 32 undef,a.tmps.getD 33 undef,a.tmps.getD 34 undef,a.tmps.getD 35 undef,a.tmps.getD 36 undef,a.tmps.getD 37 undef,a.tmps.getD 38 undef,a.tmps.getD 39 undef,a.tmps.getD 40 undef,a.tmps.getD 41 undef,a.tmps.getD 42 undef,a.tmps.getD 43 undef,a.tmps.getD 44 undef,a.tmps.getD 45 undef,a.tmps.getD 46 undef,a.tmps.getD 47 undef,a.tmps.getD 48 undef,a.tmps.getD 49 undef,a.tmps.getD 50 undef,a.tmps.getD 51 undef,a.tmps.getD 52 undef,a.tmps.getD 53 undef,a.tmps.getD 54 undef,a.tmps.getD 55 undef,a.tmps.getD 56 undef,a.tmps.getD 57 undef,a.tmps.getD 58 undef,a.tmps.getD 59 undef,a.tmps.getD 60 undef,a.tmps.getD 61 undef,a.tmps.getD 62 undef,a.tmps.getD 63 undef,a.tmps.getD 64 undef,a.tmps.getD 65 undef,a.tmps.getD 66 undef,a.tmps.getD 67 undef,a.tmps.getD 68 undef,a.tmps.getD 69 undef,a.tmps.getD 70 undef,a.tmps.getD 71 undef,a.tmps.getD 72 undef,a.tmps.getD 73 undef,a.tmps.getD 74 undef,a.tmps.getD 75 undef,a.tmps.getD 76 undef,a.tmps.getD 77 undef,a.tmps.getD 78 undef,a.tmps.getD 79 undef,a.tmps.getD 80 undef,a.tmps.getD 81 undef,a.tmps.getD 82 undef,a.tmps.getD 83 undef,a.tmps.getD 84 undef,a.tmps.getD 85 undef,a.tmps.getD 86 undef,a.tmps.getD 87 undef,a.tmps.getD 88 undef],marks ds⟩→Rch Tryd.prog [.code .ret] S [.code KT] a w:=fun a ha=>by
   rw [ha]
   exact hend' w (fun j=>a.tmps.getD j undef) hK
  exact key _ rfl
 | succ c ih =>
  intro m hm V' ds w f hK
  have hml:m < k.sources.length:=by omega
  have hm1:(m:Int) < k.sources.length:=by omega
  have hm0:(0:Int)≤m:=by omega
  have hih:=ih (m+1) (by omega)
  obtain ⟨s,hs⟩:∃ s,k.sources.getD m 0=s:=⟨_,rfl⟩
  have hsm:s∈k.sources:=by
   rw [← hs,List.getD_eq_getElem?_getD,List.getElem?_eq_getElem hml]
   exact List.getElem_mem _
  have hsn:s < k.n:=List.mem_range.1 (List.mem_filter.1 hsm).1
  have hbr:=brTo_succ k hml
  have hc0:=(hsr m hml).mono hK.sub
  rw [hs] at hc0 hbr
  have hCC:=hC.mono hK.sub
  have hS:=hK.st
  refine rch_seq (rch_code ?_)
  go_wp2_with (fail)
  refine rch_seq (rch_cond (t:=true) rfl (rch_skip ?_))
  refine rch_seq (rch_block (rch_seq (rch_code ?_)))
  unfold ptr at hc0
  go_wp2_with (((with_reducible refine gL ?_);refine qv1 hS rfl rfl rfl ?_);refine ⟨_,zd,?_⟩;clear hS;(try clear w');intro a' hp;(try simp only [fr] at hp);subst hp;intro w' hS;(try simp only [sE] at hS))
  refine rch_scope (rch_seq (rch_of_rr (rr_label (rr_of_rch ?_))))
  refine rch_seq (rch_code ?_)
  go_wp2_with (go_at_call 94;refine (branch_ok _ _).mono ?_;rintro e w' ⟨bt,rfl,hkp,hlt,hbk⟩;replace hS:=hS.fresh hkp (e:=.blk bt 124 [ptr (ts.getD s 0)]) hbk (fun b hb=>by cases hb;exact hlt))
  refine rch_block ?_
  obtain ⟨V1,hV1,hc1,hS1⟩:=pin hS
  clear hS
  have hbt:=hc1 0 _ rfl
  have hsub1:∀ j u,V j=some u→V1 j=some u:=fun j u h=>hV1 j u (hK.sub j u h)
  have key:∀ a:Act,a=⟨#[a.tmps.getD 0 undef,a.tmps.getD 1 undef,a.tmps.getD 2 undef,a.tmps.getD 3 undef,a.tmps.getD 4 undef,a.tmps.getD 5 undef,.pointer (some ⟨lb,0,none⟩),.pointer (some ⟨b7,0,none⟩),a.tmps.getD 8 undef,a.tmps.getD 9 undef,a.tmps.getD 10 undef,a.tmps.getD 11 undef,a.tmps.getD 12 undef,a.tmps.getD 13 undef,a.tmps.getD 14 undef,a.tmps.getD 15 undef,a.tmps.getD 16 undef,a.tmps.getD 17 undef,a.tmps.getD 18 undef,a.tmps.getD 19 undef,a.tmps.getD 20 undef,a.tmps.getD 21 undef,a.tmps.getD 22 undef,a.tmps.getD 23 undef,a.tmps.getD 24 undef,a.tmps.getD 25 undef,a.tmps.getD 26 undef,a.tmps.getD 27 undef,a.tmps.getD 28 undef,a.tmps.getD 29 undef,a.tmps.getD 30 undef,a.tmps.getD 31 undef,a.tmps.getD 32 undef,a.tmps.getD 33 undef,a.tmps.getD 34 undef,a.tmps.getD 35 undef,a.tmps.getD 36 undef,a.tmps.getD 37 undef,a.tmps.getD 38 undef,a.tmps.getD 39 undef,a.tmps.getD 40 undef,a.tmps.getD 41 undef,a.tmps.getD 42 undef,a.tmps.getD 43 undef,a.tmps.getD 44 undef,a.tmps.getD 45 undef,a.tmps.getD 46 undef,a.tmps.getD 47 undef,a.tmps.getD 48 undef,a.tmps.getD 49 undef,a.tmps.getD 50 undef,a.tmps.getD 51 undef,a.tmps.getD 52 undef,a.tmps.getD 53 undef,a.tmps.getD 54 undef,a.tmps.getD 55 undef,a.tmps.getD 56 undef,a.tmps.getD 57 undef,a.tmps.getD 58 undef,a.tmps.getD 59 undef,a.tmps.getD 60 undef,a.tmps.getD 61 undef,a.tmps.getD 62 undef,a.tmps.getD 63 undef,a.tmps.getD 64 undef,a.tmps.getD 65 undef,a.tmps.getD 66 undef,a.tmps.getD 67 undef,a.tmps.getD 68 undef,a.tmps.getD 69 undef,a.tmps.getD 70 undef,a.tmps.getD 71 undef,a.tmps.getD 72 undef,a.tmps.getD 73 undef,a.tmps.getD 74 undef,a.tmps.getD 75 undef,a.tmps.getD 76 undef,a.tmps.getD 77 undef,a.tmps.getD 78 undef,a.tmps.getD 79 undef,a.tmps.getD 80 undef,a.tmps.getD 81 undef,a.tmps.getD 82 undef,a.tmps.getD 83 undef,a.tmps.getD 84 undef,a.tmps.getD 85 undef,a.tmps.getD 86 undef,a.tmps.getD 87 undef,a.tmps.getD 88 undef],marks ds⟩→a.tmps.getD 42 undef=.func (.func 121) #[] #[ptr bt]→(∀ a' w4,a'=⟨a.tmps,marks (w'.heap.size :: ds)⟩→St w0 [] (Vw V1 w'.heap.size (.deferred (some []))) [.blk kb 4 (knC k l (brTo k m ++ brF k (k.n - s) s))] w4→Rch Tryd.prog [.code .ret] S [.inBlock 2,.inScope KSc,.inBlock 1,.code KR18,.inLoop KL,.inBlock 0,.code KT] a' w4) →
    Rch Tryd.prog [.code .ret] S [.code (.rangeFunc (.tmp 42) #[43] KA KB),.inBlock 2,.inScope KSc,.inBlock 1,.code KR18,.inLoop KL,.inBlock 0,.code KT] a w':=fun a ha h42 hk=>by
   have h1:=rch_branch (tgt:=[.code .ret]) (S:=S) (k0:=[.inBlock 2,.inScope KSc,.inBlock 1,.code KR18,.inLoop KL,.inBlock 0,.code KT]) (f:=fun j=>a.tmps.getD j undef) (ds:=ds) (hC.mono hsub1) hok hsn hl6 (hlb.mono hsub1) (hb7.mono hsub1) h42 hbt hS1 (fun w4 h4=>?_)
   ·rw [ha]
    exact h1
   ·refine hk _ w4 ?_ h4
    have e:a.tmps=tmK (ptr lb) (ptr b7) (fun j=>a.tmps.getD j undef):=by
     have:=congrArg Act.tmps ha
     exact this
    rw [← e]
  refine key _ rfl rfl ?_
  rintro a' w4 rfl hS4
  clear key
  refine rch_inBlock (rch_inScope (rch_inBlock (rch_code ?_)))
  have hS:=hS4
  conv=>enter [2];whnf
  go_wp2_with (fail)
  refine rch_inLoop ?_
  have hK':KH w0 V (Vw V1 w'.heap.size (.deferred (some []))) k l kb (m+1) (w'.heap.size :: ds) w4:=by
   have hD:V1 w'.heap.size=none:=st_none hS1 (Nat.le_refl _)
   have hsub:∀ j u,V1 j=some u→Vw V1 w'.heap.size (.deferred (some [])) j=some u:=Vw.sub hD
   refine ⟨fun j u h=>hsub j u (hsub1 j u h),by rw [hbr];exact hS4,List.nodup_cons.2 ⟨fun hm=>?_,hK.nd⟩,fun d hd=>?_⟩
   ·have:=(hK.ds _ hm).2
    have h2:=hV1 _ _ this
    rw [hD] at h2
    cases h2
   ·rcases List.mem_cons.1 hd with rfl | hd
    ·exact ⟨hS1.size,Vw.same _ _ _⟩
    ·exact ⟨(hK.ds d hd).1,hsub _ _ (hV1 _ _ (hK.ds d hd).2)⟩
  have key:∀ a:Act,a=⟨#[a.tmps.getD 0 undef,a.tmps.getD 1 undef,a.tmps.getD 2 undef,a.tmps.getD 3 undef,a.tmps.getD 4 undef,a.tmps.getD 5 undef,.pointer (some ⟨lb,0,none⟩),.pointer (some ⟨b7,0,none⟩),a.tmps.getD 8 undef,a.tmps.getD 9 undef,a.tmps.getD 10 undef,a.tmps.getD 11 undef,a.tmps.getD 12 undef,a.tmps.getD 13 undef,a.tmps.getD 14 undef,a.tmps.getD 15 undef,a.tmps.getD 16 undef,a.tmps.getD 17 undef,a.tmps.getD 18 undef,a.tmps.getD 19 undef,a.tmps.getD 20 undef,a.tmps.getD 21 undef,a.tmps.getD 22 undef,a.tmps.getD 23 undef,a.tmps.getD 24 undef,a.tmps.getD 25 undef,a.tmps.getD 26 undef,a.tmps.getD 27 undef,a.tmps.getD 28 undef,a.tmps.getD 29 undef,a.tmps.getD 30 undef,a.tmps.getD 31 undef,a.tmps.getD 32 undef,a.tmps.getD 33 undef,a.tmps.getD 34 undef,.slice (some ⟨g,0,none⟩) k.sources.length cap,.int .i64 k.sources.length,.int .i64 ((m:Int)+1),a.tmps.getD 38 undef,a.tmps.getD 39 undef,a.tmps.getD 40 undef,a.tmps.getD 41 undef,a.tmps.getD 42 undef,a.tmps.getD 43 undef,a.tmps.getD 44 undef,a.tmps.getD 45 undef,a.tmps.getD 46 undef,a.tmps.getD 47 undef,a.tmps.getD 48 undef,a.tmps.getD 49 undef,a.tmps.getD 50 undef,a.tmps.getD 51 undef,a.tmps.getD 52 undef,a.tmps.getD 53 undef,a.tmps.getD 54 undef,a.tmps.getD 55 undef,a.tmps.getD 56 undef,a.tmps.getD 57 undef,a.tmps.getD 58 undef,a.tmps.getD 59 undef,a.tmps.getD 60 undef,a.tmps.getD 61 undef,a.tmps.getD 62 undef,a.tmps.getD 63 undef,a.tmps.getD 64 undef,a.tmps.getD 65 undef,a.tmps.getD 66 undef,a.tmps.getD 67 undef,a.tmps.getD 68 undef,a.tmps.getD 69 undef,a.tmps.getD 70 undef,a.tmps.getD 71 undef,a.tmps.getD 72 undef,a.tmps.getD 73 undef,a.tmps.getD 74 undef,a.tmps.getD 75 undef,a.tmps.getD 76 undef,a.tmps.getD 77 undef,a.tmps.getD 78 undef,a.tmps.getD 79 undef,a.tmps.getD 80 undef,a.tmps.getD 81 undef,a.tmps.getD 82 undef,a.tmps.getD 83 undef,a.tmps.getD 84 undef,a.tmps.getD 85 undef,a.tmps.getD 86 undef,a.tmps.getD 87 undef,a.tmps.getD 88 undef],marks (w'.heap.size :: ds)⟩→Rch Tryd.prog [.code .ret] S [.code KL,.inLoop KL,.inBlock 0,.code KT] a w4:=fun a ha=>by
   have h1:=hih _ _ w4 (fun j=>a.tmps.getD j undef) hK'
   rw [ha]
   exact h1
  exact key _ rfl
end Go.Proofs.YtjjmefieegcddaaDoor
namespace Go.Proofs.YtjjmefieegcddaaDoor
open Go.RowKit Go.Wg Go.Mm Go.Wk
open Go Go.Sr Go.Ph Go.Tm Go.Conc
variable {w:World} {V:View}
theorem brTo_zero (k:Wk):brTo k 0=[]:=by simp [brTo]
def KS (w:World) (k:Wk) (a:Act) (w':World):Prop :=
 ∃ (V3:View) (p g cap lb b7 kb:Nat) (ts:List Nat) (vv rv:Value),(∃ f:Nat→Value,a=⟨#[f 0,f 1,f 2,f 3,f 4,f 5,.pointer (some ⟨lb,0,none⟩),.pointer (some ⟨b7,0,none⟩),f 8,f 9,f 10,f 11,f 12,f 13,f 14,f 15,f 16,f 17,f 18,f 19,f 20,f 21,f 22,f 23,f 24,f 25,f 26,f 27,f 28,f 29,f 30,f 31,f 32,f 33,f 34,.slice (some ⟨g,0,none⟩) k.sources.length cap,.int .i64 k.sources.length,.int .i64 ((0:Nat):Int),f 38,f 39,f 40,f 41,f 42,f 43,f 44,f 45,f 46,f 47,f 48,f 49,f 50,f 51,f 52,f 53,f 54,f 55,f 56,f 57,f 58,f 59,f 60,f 61,f 62,f 63,f 64,f 65,f 66,f 67,f 68,f 69,f 70,f 71,f 72,f 73,f 74,f 75,f 76,f 77,f 78,f 79,f 80,f 81,f 82,f 83,f 84,f 85,f 86,f 87,f 88],marks []⟩)∧Cel V3 p k ts vv rv∧V3.Range lb 0 (limC (up k (nowS k noneB)))∧V3.Cell b7 0 (.slice (some ⟨kb,0,none⟩) k.n k.n) ∧
  (∀ m,m < k.sources.length→V3.Cell g m (ptr (ts.getD (k.sources.getD m 0) 0)))∧k.sources.length≤6∧k.sources.length≤cap∧KH w V3 V3 k (up k (nowS k noneB)) kb 0 [] w'
set_option maxRecDepth 20000 in
set_option maxHeartbeats 4000000 in
theorem knot_start (vv rv:Value) (k:Wk) (hk:WkIn V vv rv k) (hG:GV V) (hV:V.In w) (hb:beginE k []=0) :
  Rch Tryd.prog [.code KL,.inLoop KL,.inBlock 0,.code KT] (KS w k) [.code B34] { tmps:=#[.agg #[vv,rv]] ++ Array.replicate 88 undef,defers:=[] } w:=by
 have hk0:=hk
 obtain ⟨va,vcap,rfl,hvc,hvm,hve⟩:=hk0.ves.is
 obtain ⟨ra,rcap,rfl,hrc,hrm,hre⟩:=hk0.rdg.is
 have hS:=St.start w V hV
 clear hk0 hve hre
 have hok:=beginE_check hb
 have hpos:=sources_pos hok
 have hn6:=hok.le
 have hwf:=nowS_wf k noneB
 have hll:(up k (nowS k noneB)).length=6:=upAt_len k _ k.n
 replace hb:=mkHid hb
 simp only [Array.replicate_succ,Array.replicate_zero,List.push_toArray,List.append_toArray,List.nil_append,List.cons_append]
 refine rch_seq (rch_code ?_)
 go_wp2_with (((with_reducible refine gB ?_);refine qbox hS rfl rfl rfl ?_;refine ⟨_,za,?_⟩);clear hS;(try clear w');intro _;intro a' hp;(try simp only [fr] at hp);subst hp;intro w' hS)
 refine rch_seq (rch_code ?_)
 go_wp2_with (first | (((with_reducible refine gL ?_);refine qln hS rfl rfl rfl ?_);refine ⟨_,zd,?_⟩;clear hS;(try clear w');intro a' hp;(try simp only [fr] at hp);subst hp;intro w' hS;(try simp only [sE] at hS)) | (go_at_call 77;refine calls_begin hS hk nilSl (by simp) hb.out ?_;clear hS;(try clear w');intro p V' w' hVV hcel hS;have hG':GV V':=hG.mono hVV))
 obtain ⟨ts,vv',rv',hC⟩:=id hcel
 obtain ⟨cg,ccap,hc2,hcc⟩:=hC.c2
 refine rch_seq (rch_seq (rch_code ?_))
 go_wp2_with (fail)
 refine rch_cond (t:=false) rfl (rch_skip ?_)
 have hup:=fun w' hV'=>up_ok V' p k hcel (nowS k noneB) hwf w' hV'
 generalize hl:up k (nowS k noneB)=l at hup hll
 have hLl:(limC l).length=6:=by rw [limC_len,hll]
 refine rch_seq (rch_code ?_)
 go_wp2_with (first | (first | (((with_reducible refine gS ?_);refine qsall hS rfl rfl rfl ?_);refine ⟨_,zd,?_⟩;clear hS;(try clear w');intro a' hp;(try simp only [fr] at hp);subst hp;intro w' hS;(try simp only [sE] at hS)) | ((with_reducible refine gA ?_);refine qallocd 6 rfl hS rfl rfl ?_;clear hS;(try clear w');intro b6;intro a' hp;(try simp only [fr] at hp);subst hp;intro w' hS)) | (go_at_call 79;refine calls_by hS ⟨_,now_none V' p k hcel hok _ rfl _ (St.view hS),?_⟩;clear hS;(try clear w');intro w' hS) | (go_at_call 92;refine calls_by hS ⟨_,hup _ (St.view hS),?_⟩;clear hS;(try clear w');intro w' hS))
 refine rch_seq (rch_code ?_)
 go_wp2_with (first | (first | ((first | ((with_reducible refine gL ?_);refine qv1 hS rfl rfl rfl ?_) | ((with_reducible refine gS ?_);refine qs1 hS rfl rfl rfl ?_));refine ⟨_,zd,?_⟩;clear hS;(try clear w');intro a' hp;(try simp only [fr] at hp);subst hp;intro w' hS;(try simp only [sE] at hS)) | ((with_reducible refine gA ?_);refine qallocd 7 rfl hS rfl rfl ?_;clear hS;(try clear w');intro b7;intro a' hp;(try simp only [fr] at hp);subst hp;intro w' hS)) | (refine qmk82 hS rfl rfl rfl rfl (by omega) ?_;clear hS;(try clear w');intro kb a' hp;(try simp only [fr] at hp);subst hp;intro w' hS))
 refine rch_seq (rch_seq (rch_code ?_))
 go_wp2_with (go_at_call 93;refine (sources_ok _ p k ts vv' rv' hC _ (St.view hS)).mono ?_;rintro _ w4 ⟨sl,rfl,hkp,hrow,hnew⟩;obtain ⟨g,cap,cur,rfl,hc2',hc3,hcur,hget⟩:=row_slice hrow.1 hpos)
 have hlt0:∀ e∈_,∀ b,Ent.foot e=some b→b < w'.heap.size:=fun e he b hb=>(hS.has e he).lt hb
 replace hS:=hS.kp hkp
 have hgn:=hnew g rfl
 refine rch_block (rch_loop ?_)
 obtain ⟨V1,hV1,hp1,hS1⟩:=pin hS
 clear hS
 obtain ⟨V2,hV2,hp2,hS2⟩:=pin (hS1.perm (List.Perm.swap _ _ _))
 have hS3:=hS2.sub (List.Sublist.cons_cons _ (List.nil_sublist _))
 clear hS1 hS2
 obtain ⟨hS4,hV4⟩:=st_view hS3 hcur (fun e he hf=>by
  simp only [List.mem_singleton] at he
  subst he
  have:kb=g:=Option.some.inj hf
  have:=hlt0 (.blk kb 4 (List.replicate k.n (.bool false))) (by simp) kb rfl
  omega)
 have hsub:∀ j u,V' j=some u→Vw V2 g (.cells cur 124 (0,0)) j=some u:=fun j u h=>hV4 j u (hV2 j u (hV1 j u h))
 have hcell:∀ m,m < k.sources.length→(Vw V2 g (.cells cur 124 (0,0))).Cell g m (ptr (ts.getD (k.sources.getD m 0) 0)):=fun m hm=>by
  refine ⟨cur,124,(0,0),Vw.same _ _ _,?_⟩
  have h1:(cur.toList.take k.sources.length)[m]? = some (ptr (ts.getD (k.sources.getD m 0) 0)):=by
   rw [hget,List.getElem?_map,List.getElem?_eq_getElem hm,List.getD_eq_getElem?_getD (l:=k.sources),List.getElem?_eq_getElem hm]
   rfl
  rw [List.getElem?_take,if_pos hm] at h1
  simpa using h1
 have hsl:k.sources.length≤6:=Nat.le_trans (srcTo_len k k.n) hn6
 rw [← hl] at hp2
 have key:∀ a:Act,a=⟨#[a.tmps.getD 0 undef,a.tmps.getD 1 undef,a.tmps.getD 2 undef,a.tmps.getD 3 undef,a.tmps.getD 4 undef,a.tmps.getD 5 undef,.pointer (some ⟨b6,0,none⟩),.pointer (some ⟨b7,0,none⟩),a.tmps.getD 8 undef,a.tmps.getD 9 undef,a.tmps.getD 10 undef,a.tmps.getD 11 undef,a.tmps.getD 12 undef,a.tmps.getD 13 undef,a.tmps.getD 14 undef,a.tmps.getD 15 undef,a.tmps.getD 16 undef,a.tmps.getD 17 undef,a.tmps.getD 18 undef,a.tmps.getD 19 undef,a.tmps.getD 20 undef,a.tmps.getD 21 undef,a.tmps.getD 22 undef,a.tmps.getD 23 undef,a.tmps.getD 24 undef,a.tmps.getD 25 undef,a.tmps.getD 26 undef,a.tmps.getD 27 undef,a.tmps.getD 28 undef,a.tmps.getD 29 undef,a.tmps.getD 30 undef,a.tmps.getD 31 undef,a.tmps.getD 32 undef,a.tmps.getD 33 undef,a.tmps.getD 34 undef,.slice (some ⟨g,0,none⟩) k.sources.length cap,.int .i64 k.sources.length,.int .i64 ((0:Nat):Int),a.tmps.getD 38 undef,a.tmps.getD 39 undef,a.tmps.getD 40 undef,a.tmps.getD 41 undef,a.tmps.getD 42 undef,a.tmps.getD 43 undef,a.tmps.getD 44 undef,a.tmps.getD 45 undef,a.tmps.getD 46 undef,a.tmps.getD 47 undef,a.tmps.getD 48 undef,a.tmps.getD 49 undef,a.tmps.getD 50 undef,a.tmps.getD 51 undef,a.tmps.getD 52 undef,a.tmps.getD 53 undef,a.tmps.getD 54 undef,a.tmps.getD 55 undef,a.tmps.getD 56 undef,a.tmps.getD 57 undef,a.tmps.getD 58 undef,a.tmps.getD 59 undef,a.tmps.getD 60 undef,a.tmps.getD 61 undef,a.tmps.getD 62 undef,a.tmps.getD 63 undef,a.tmps.getD 64 undef,a.tmps.getD 65 undef,a.tmps.getD 66 undef,a.tmps.getD 67 undef,a.tmps.getD 68 undef,a.tmps.getD 69 undef,a.tmps.getD 70 undef,a.tmps.getD 71 undef,a.tmps.getD 72 undef,a.tmps.getD 73 undef,a.tmps.getD 74 undef,a.tmps.getD 75 undef,a.tmps.getD 76 undef,a.tmps.getD 77 undef,a.tmps.getD 78 undef,a.tmps.getD 79 undef,a.tmps.getD 80 undef,a.tmps.getD 81 undef,a.tmps.getD 82 undef,a.tmps.getD 83 undef,a.tmps.getD 84 undef,a.tmps.getD 85 undef,a.tmps.getD 86 undef,a.tmps.getD 87 undef,a.tmps.getD 88 undef],marks []⟩→KS w k a w4:=fun a ha =>
  ⟨Vw V2 g (.cells cur 124 (0,0)),p,g,cap,b6,b7,kb,ts,vv',rv',⟨fun j=>a.tmps.getD j undef,ha⟩,hC.mono hsub,fun j v hj=>by rw [Nat.zero_add];exact (hp2 j v hj).mono hV4,((hp1 0 _ rfl).mono hV2).mono hV4,hcell,hsl,hc2',
   ⟨fun _ _ h=>h,by rw [brTo_zero,knC_nil];exact hS4,List.nodup_nil,fun d hd=>nomatch hd⟩⟩
 exact rch_here (tgt:=[.code KL,.inLoop KL,.inBlock 0,.code KT]) (key _ rfl)
def KE (w:World) (k:Wk) (l:List Nat) (a:Act) (w':World):Prop :=
 ∃ (V4:View) (ds:List Nat) (v:Value),a.defers=marks ds∧ds.Nodup∧(∀ d∈ds,w.heap.size≤d∧V4 d=some (.deferred (some [])))∧a.tmps[2]? = some v∧a.tmps[3]? = some (.int .i64 0) ∧
  St w [] V4 [.row v 3 1 (knotsTo k l k.n).length (intsC (knotsTo k l k.n))] w'
set_option maxRecDepth 20000 in
set_option maxHeartbeats 4000000 in
theorem knot_end {w0:World} {k:Wk} {V':View} {lb b7 kb:Nat} {ds:List Nat} (hok:k.Ok) (f:Nat→Value) (hb7:V.Cell b7 0 (.slice (some ⟨kb,0,none⟩) k.n k.n)) (hK:KH w0 V V' k (up k (nowS k noneB)) kb k.sources.length ds w) :
  Rch Tryd.prog [.code .ret] (KE w0 k (up k (nowS k noneB))) [.code KT] ⟨tmK (.pointer (some ⟨lb,0,none⟩)) (.pointer (some ⟨b7,0,none⟩)) f,marks ds⟩ w:=by
 have hn6:=hok.le
 have hS0:=hK.st
 rw [knC_all hok] at hS0
 obtain ⟨V4,hV4,hcel,hS1⟩:=pin hS0
 have hb7':=(hb7.mono hK.sub).mono hV4
 have hds:∀ d∈ds,w0.heap.size≤d∧V4 d=some (.deferred (some [])):=fun d hd=>⟨(hK.ds d hd).1,hV4 _ _ (hK.ds d hd).2⟩
 have hnd:=hK.nd
 have hS:=hS1.nilRow 3 1
 clear hS0 hS1 hK hb7
 generalize up k (nowS k noneB)=l at *
 have hcel':∀ i,i < k.n→V4.Cell kb i (.bool (knotB k l i)):=fun i hi=>hcel i _ (by simp [hi])
 clear hcel
 rw [show tmK (.pointer (some ⟨lb,0,none⟩)) (.pointer (some ⟨b7,0,none⟩)) f=#[f 0,f 1,f 2,f 3,f 4,f 5,.pointer (some ⟨lb,0,none⟩),.pointer (some ⟨b7,0,none⟩),f 8,f 9,f 10,f 11,f 12,f 13,f 14,f 15,f 16,f 17,f 18,f 19,f 20,f 21,f 22,f 23,f 24,f 25,f 26,f 27,f 28,f 29,f 30,f 31,f 32,f 33,f 34,f 35,f 36,f 37,f 38,f 39,f 40,f 41,f 42,f 43,f 44,f 45,f 46,f 47,f 48,f 49,f 50,f 51,f 52,f 53,f 54,f 55,f 56,f 57,f 58,f 59,f 60,f 61,f 62,f 63,f 64,f 65,f 66,f 67,f 68,f 69,f 70,f 71,f 72,f 73,f 74,f 75,f 76,f 77,f 78,f 79,f 80,f 81,f 82,f 83,f 84,f 85,f 86,f 87,f 88] from rfl]
 refine rch_seq (rch_code ?_)
 go_wp2_with (fail)
 refine rch_seq (rch_code ?_)
 go_wp2_with (((with_reducible refine gL ?_);refine qv1 hS rfl rfl rfl ?_);refine ⟨_,zd,?_⟩;clear hS;(try clear w');intro a' hp;(try simp only [fr] at hp);subst hp;intro w' hS;(try simp only [sE] at hS))
 go_loopw [13,77] (fun sv iv wr=>∃ i:Nat,i≤k.n∧iv=.int .i64 (i:Int)∧sv.oneCell'=true∧St w0 [] V4 [.row sv 3 1 (knotsTo k l i).length (intsC (knotsTo k l i))] wr) (fun _ iv _=>k.n - (intOf iv).toNat)
 case atStart=>exact ⟨0,by omega,rfl,rfl,hS⟩
 case round =>
  clear hS
  obtain ⟨i,hi,rfl,hone,hS⟩:=hrel
  by_cases hlt:i < k.n
  ·have h0:(0:Int)≤i:=by omega
   have h1:(i:Int) < k.n:=by omega
   have hll:=knotsTo_len k l i
   have HT:=knotsTo_succ k l i
   have hc:=hcel' i hlt
   generalize knotsTo k l i=xs at hS hll HT
   have hil:=intsC_len xs
   clear hcel'
   cases hq:knotB k l i with
   | true =>
    rw [hq] at hc HT
    simp only [if_true] at HT
    replace HT:=mkHid HT
    go_wp2_with (first | (((with_reducible refine gL ?_);refine qv1 hS rfl rfl rfl ?_);refine ⟨_,zd,?_⟩;clear hS;(try clear w');intro a' hp;(try simp only [fr] at hp);subst hp;intro w' hS;(try simp only [sE] at hS)) | ((with_reducible refine gSl ?_);refine qbsl hS rfl rfl ?_;refine ⟨_,zq,zd,?_⟩;clear hS;(try clear w');intro _;intro a' hp;(try simp only [fr] at hp);subst hp;intro w' hS) | ((with_reducible refine gAp ?_);refine qap rfl rfl ?_;refine ⟨_,_,_,_,by exact rfl,by exact rfl,?_⟩;refine appG_of hS zd ?_;clear hS;(try clear w');intro va w' hS;intro a' hp;(try simp only [fr] at hp);subst hp;(try simp only [sE] at hS);have hva:=rowOne hS va))
    go_roundw
    case rel =>
     refine ⟨i+1,by omega,by go_num,hva,?_⟩
     rw [HT.out]
     have ei:intsC (xs ++ [(i:Int)])=intsC xs ++ [.int .i64 (i:Int)]:=by simp [intsC]
     simp only [ei,List.length_append,List.length_cons,List.length_nil,Nat.zero_add]
     exact hS.subI
    case measure=>simp only [intOf];omega
   | false =>
    rw [hq] at hc HT
    simp only [Bool.false_eq_true,if_false] at HT
    replace HT:=mkHid HT
    go_wp2_with (((with_reducible refine gL ?_);refine qv1 hS rfl rfl rfl ?_);refine ⟨_,zd,?_⟩;clear hS;(try clear w');intro a' hp;(try simp only [fr] at hp);subst hp;intro w' hS;(try simp only [sE] at hS))
    go_roundw
    case rel =>
     refine ⟨i+1,by omega,by go_num,hone,?_⟩
     rw [HT.out]
     exact hS.subI
    case measure=>simp only [intOf];omega
  ·obtain rfl:i=k.n:=by omega
   clear hcel'
   go_wp2_with (fail)
   refine rch_seq (rch_code ?_)
   go_wp2_with (fail)
   refine rch_here (tgt:=[.code .ret]) ?_
   unfold KE
   exact ⟨V4,ds,_,rfl,hnd,hds,rfl,rfl,hS⟩
end Go.Proofs.YtjjmefieegcddaaDoor
