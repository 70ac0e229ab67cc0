/- A part of the proof: W67, W68, W69, W70, W82, T29, S27, S28, S30, S31, W89, S32, W90, Q8, W84, S29, W86, W87, W88, W91, Q9, S34, S36, W103. -/
import Derived.Test.YtjjmefieegcddaaDoorJ11
import Derived.Test.YtjjmefieegcddaaDoorJ13
import Derived.Test.YtjjmefieegcddaaDoorJ09
import Derived.Deep.Upon
import Derived.Laws.Slices
import Derived.DeepKeys
import Derived.BigGuard
set_option linter.unusedVariables false
set_option linter.unusedSimpArgs false
set_option maxHeartbeats 8000000
set_option maxRecDepth 20000
namespace Go.Proofs.YtjjmefieegcddaaDoor
open Go.RowKit Go.Wg Go.Mm
theorem SK:qN (nJ [])=([29,15,11,15],0):=by kernel_rfl
theorem JR:iw (nJ []) 1=((15,17),0):=by kernel_rfl
theorem Vg:vX (nJ [])=((1,5),0):=by kernel_rfl
theorem SE:qQ (nJ [⟨1,0,20,1⟩])=([1],0):=by kernel_rfl
theorem Xa:oW (nJ []) 0=((0,3),0):=by kernel_rfl
theorem NZ:qx (nJ [⟨1,0,20,1⟩]) 1=(2,0):=by kernel_rfl
open Go.Wk
open Go Go.Sr Go.Ph Go.Tm Go.Conc
variable {w:World} {V:View} {w0:World} {X:List Nat} {L:List dF}
theorem Bz {k:Wk} {args:Array Value} {R:Ending->World->Prop} (hS:St w0 X V L w) (hm:Calls Tryd.prog 75 args w (U5 V w k)) (h:∀ (V':View) (vv rv:Value) (w':World),(∀ j o,V j=some o->V' j=some o)->iJ V' vv rv k->St w0 X V' L w'->R (.returned (.agg #[vv,rv])) w'):Calls Tryd.prog 75 args w R:=by
 refine hm.mono ?_
 rintro e w' ⟨V',vv,rv,rfl,hk,hn,hin,hwk⟩
 exact h V' vv rv w' (fun j o hj=>by rw[hn j (lt_of_heap (hS.view j o hj))];exact hj) hwk (hS.call hk hin hn)
theorem tZ {R:Ending->World->Prop} (hS:St w0 X V L w) (hB:Bs V) (h:∀ (V':View) (vv rv:Value) (w':World),(∀ j o,V j=some o->V' j=some o)->iJ V' vv rv (nJ [])->St w0 X V' L w'->R (.returned (.agg #[vv,rv])) w'):Calls Tryd.prog 75 #[.slice none 0 0] w R:=Bz hS (UM hB hS.view) h
theorem Ba {R:Ending->World->Prop} (hS:St w0 X V L w) (hB:Bs V) {bm:Nat} {r:je} (hm:∀ i v,(fH [r])[i]? = some v->V.Cell bm i v) (h:∀ (V':View) (vv rv:Value) (w':World),(∀ j o,V j=some o->V' j=some o)->iJ V' vv rv (nJ [r])->St w0 X V' L w'->R (.returned (.agg #[vv,rv])) w') :
  Calls Tryd.prog 75 #[.slice (some ⟨bm,0,none⟩) 1 1] w R:=Bz hS (Va hB hS.view r fun j v hj=>by rw[Nat.zero_add];exact hm j v hj) h
theorem xZ {f:FuncId} {args:Array Value} {R:Ending->World->Prop} {u:Value} {l:List Int} (hS:St w0 X V L w) (hc:Calls Tryd.prog f args w fun r w'=>∃ v,r=.returned (.tuple #[v,u])/\Kp w w'/\tY w w' v l)
  (h:∀ (V':View) (v:Value) (w':World),(∀ j o,V j=some o->V' j=some o)->VI V' v l->v.oneCell'=true->St w0 X V' L w'->R (.returned (.tuple #[v,u])) w'):Calls Tryd.prog f args w R:=by
 refine hc.mono ?_
 rintro e w' ⟨v,rfl,hk,ho⟩
 obtain⟨V',h1,h2,h3⟩:=Um hS hk ho
 refine h V' v w' h1 h3 ?_ h2
 obtain⟨a,cap,rfl,_⟩:=h3.is
 rfl
theorem Ls {vv rv:Value} {k:Wk} {R:Ending->World->Prop} {l:List Int} {e:Int} (hS:St w0 X V L w) (hB:Bs V) (hk:iJ V vv rv k) (hv:qN k=(l,e))
  (h:∀ (V':View) (v:Value) (w':World),(∀ j o,V j=some o->V' j=some o)->VI V' v l->v.oneCell'=true->St w0 X V' L w'->R (.returned (.tuple #[v,.int .i64 e])) w'):Calls Tryd.prog 27 #[.agg #[vv,rv]] w R:=by
 have hc:=Vh vv rv k hk hB.gv hS.view
 rw[hv]at hc
 exact xZ hS hc h
theorem MV {vv rv:Value} {k:Wk} {R:Ending->World->Prop} {l:List Int} {e:Int} (hS:St w0 X V L w) (hB:Bs V) (hk:iJ V vv rv k) (hv:qQ k=(l,e))
  (h:∀ (V':View) (v:Value) (w':World),(∀ j o,V j=some o->V' j=some o)->VI V' v l->v.oneCell'=true->St w0 X V' L w'->R (.returned (.tuple #[v,.int .i64 e])) w'):Calls Tryd.prog 34 #[.agg #[vv,rv]] w R:=by
 have hc:=VK vv rv k hk hB.gv hS.view
 rw[hv]at hc
 exact xZ hS hc h
theorem oq {vv rv:Value} {k:Wk} {R:Ending->World->Prop} {v a b e:Int} (hS:St w0 X V L w) (hB:Bs V) (hk:iJ V vv rv k) (hv:iw k v=((a,b),e))
  (h:∀ w',St w0 X V L w'->R (.returned (.tuple #[.agg #[.int .i64 a,.int .i64 b],.int .i64 e])) w'):Calls Tryd.prog 54 #[.agg #[vv,rv],.int .i64 v] w R:=by
 have hc:=RY vv rv k hk hB.gv hS.view v
 rw[hv]at hc
 exact aH hS ⟨_,hc,h⟩
theorem JC {vv rv:Value} {k:Wk} {R:Ending->World->Prop} {v a e:Int} (hS:St w0 X V L w) (hB:Bs V) (hk:iJ V vv rv k) (hv:qx k v=(a,e))
  (h:∀ w',St w0 X V L w'->R (.returned (.tuple #[.int .i64 a,.int .i64 e])) w'):Calls Tryd.prog 51 #[.agg #[vv,rv],.int .i64 v] w R:=by
 have hc:=RS vv rv k hk hB.gv hS.view v
 rw[hv]at hc
 exact aH hS ⟨_,hc,h⟩
theorem zu {l1 l2:List Int} {a b:Value} {R:Ending->World->Prop} (hS:St w0 X V L w) (h1:VI V a l1) (h2:VI V b l2) (n1:l1.length<=100) (n2:l2.length<=100) (he:l1=l2) (h:∀ w',St w0 X V L w'->R (.returned (.bool true)) w'):Calls Tryd.prog 31 #[a,b] w R:=by
 have hc:=SI l1 l2 a b h1 h2 n1 n2 hS.view
 rw[decide_eq_true he]at hc
 exact aH hS ⟨_,hc,h⟩
theorem YD {V:View} {b:Nat} {l:List Int} (hl:l.length<=100) (h:∀ i x,(aV l)[i]? = some x->V.Cell b i x):VI V (.slice (some ⟨b,0,none⟩) l.length l.length) l:=by
 refine⟨⟨some ⟨b,0,none⟩,l.length,rfl,Nat.le_refl _,by unfold maxLen;omega,fun _=>⟨b,0,rfl,fun i hi j x hj=>?_⟩⟩⟩
 cases j with
 |succ j=>simp at hj
 |zero =>
  simp at hj
  subst hj
  have:=h i (.int .i64 (l.getD i 0)) (by simp[aV,List.getD_eq_getElem?_getD,List.getElem?_eq_getElem hi])
  simpa using this
noncomputable def B21:Code:=match Tryd.f21.body with|some c=>c|none=>.skip
noncomputable def Yz:Code:=match B21 with | .seq _ (.seq _ (.seq _ (.seq _ r)))=>r|_=>.skip
noncomputable def Zq:Code:=match Yz with | .seq _ (.seq _ r)=>r|_=>.skip
noncomputable def Gv:Array Oper:=match B21 with | .seq _ (.seq _ (.seq _ (.seq (.region _ o _) _)))=>o|_=>#[]
noncomputable def qm:Array Oper:=match Yz with | .seq _ (.seq (.region _ o _) _)=>o|_=>#[]
def Wd1 (w:World) (V:View) (a:Act) (w':World):Prop :=
 ∃ (V':View) (vv rv v1:Value) (b3:Nat),(∃ f:Nat->Value,a=⟨#[.bool false,v1,.int .i64 0,.pointer (some ⟨b3,0,none⟩),.int .i64 0,f 5,f 6,f 7,f 8,f 9,f 10,f 11,f 12,f 13,f 14,f 15,f 16,f 17,f 18,f 19,f 20,f 21,f 22,f 23,f 24,.agg #[vv,rv],f 26,f 27,f 28,f 29,f 30,f 31,f 32,f 33,f 34,f 35,f 36,f 37,f 38,f 39,f 40,f 41,f 42,f 43,f 44,f 45,f 46,f 47,f 48,f 49,f 50,f 51,f 52,f 53,f 54,f 55,f 56,f 57,f 58,f 59,f 60,f 61,f 62,f 63,f 64,f 65,f 66,f 67,f 68,f 69,f 70,f 71,f 72,f 73,f 74,f 75,f 76,f 77,f 78,f 79,f 80,f 81,f 82,f 83,f 84,f 85,f 86,f 87,f 88,f 89,f 90,f 91,f 92,f 93,f 94,f 95,f 96,f 97,f 98,f 99,f 100,f 101,f 102],[]⟩)/\(∀ j o,V j=some o->V' j=some o)/\iJ V' vv rv (nJ [])/\VI V' v1 [29,15,11,15]/\v1.oneCell'=true/\(∀ i v,[Value.int .i64 15,.int .i64 17][i]? = some v->V'.Cell b3 i v)/\St w [] V' [] w'
theorem U2 (hB:Bs V) (hV:V.In w):fA Tryd.prog [.inRegion Gv [1,2,3,4,5,6,7],.code Yz] (Wd1 w V) [.code B21] {tmps:=#[] ++ Array.replicate 103 undef,defers:=[]} w:=by
 have hS:=St.start w V hV
 simp only[Array.replicate_succ,Array.replicate_zero,List.push_toArray,List.append_toArray,List.nil_append,List.cons_append]
 refine au (aA ?_)
 go_wp2_with (fail)
 refine au (aA ?_)
 go_wp2_with (first|(go_at_call 75;refine tZ hS hB ?_;clear hS;(try clear w');intro V1 vv1 rv1 w' hV1 hk1 hS)|(go_at_call 27;refine Ls hS (hB.mono hV1) hk1 SK ?_;clear hS;(try clear w');intro V2 v1 w' hV2 hv1 hone hS))
 have hB2:Bs V2:=hB.mono fun j o h=>hV2 j o (hV1 j o h)
 refine au (aA ?_)
 go_wp2_with (first|(first|(((with_reducible refine gS ?_);refine bQ hS rfl rfl rfl ?_);refine⟨_,zd,?_⟩;clear hS;(try clear w');refine zF ?_;intro w' hS;(try simp only[sE]at hS))|((with_reducible refine gA ?_);refine aT 3 rfl hS rfl rfl ?_;clear hS;(try clear w');intro b3;refine zF ?_;intro w' hS))|(go_at_call 75;refine tZ hS hB2 ?_;clear hS;(try clear w');intro V3 vv3 rv3 w' hV3 hk3 hS)|(go_at_call 54;refine oq hS (hB2.mono hV3) hk3 JR ?_;clear hS;(try clear w');intro w' hS))
 obtain⟨V4,hV4,hc4,hS4⟩:=pin hS
 clear hS
 have hS:=hS4
 clear hS4
 have hB4:Bs V4:=hB2.mono fun j o h=>hV4 j o (hV3 j o h)
 refine au (ig ?_)
 refine rZ (i:=0) rfl rfl (run_call_body rfl Tryd.func75 (by kernel_rfl) rfl) ?_
 simp only[List.map_toArray,List.map_cons,List.map_nil]
 show Calls Tryd.prog 75 #[.slice none 0 0] _ _
 refine tZ hS hB4 ?_
 clear hS
 intro V5 vv rv w' hV5 hk5 hS
 refine⟨_,rfl,?_⟩
 have key:∀ a:Act,a=⟨#[.bool false,v1,.int .i64 0,.pointer (some ⟨b3,0,none⟩),.int .i64 0,a.tmps.getD 5 undef,a.tmps.getD 6 undef,a.tmps.getD 7 undef,a.tmps.getD 8 undef,a.tmps.getD 9 undef,a.tmps.getD 10 undef,a.tmps.getD 11 undef,a.tmps.getD 12 undef,a.tmps.getD 13 undef,a.tmps.getD 14 undef,a.tmps.getD 15 undef,a.tmps.getD 16 undef,a.tmps.getD 17 undef,a.tmps.getD 18 undef,a.tmps.getD 19 undef,a.tmps.getD 20 undef,a.tmps.getD 21 undef,a.tmps.getD 22 undef,a.tmps.getD 23 undef,a.tmps.getD 24 undef,.agg #[vv,rv],a.tmps.getD 26 undef,a.tmps.getD 27 undef,a.tmps.getD 28 undef,a.tmps.getD 29 undef,a.tmps.getD 30 undef,a.tmps.getD 31 undef,a.tmps.getD 32 undef,a.tmps.getD 33 undef,a.tmps.getD 34 undef,a.tmps.getD 35 undef,a.tmps.getD 36 undef,a.tmps.getD 37 undef,a.tmps.getD 38 undef,a.tmps.getD 39 undef,a.tmps.getD 40 undef,a.tmps.getD 41 undef,a.tmps.getD 42 undef,a.tmps.getD 43 undef,a.tmps.getD 44 undef,a.tmps.getD 45 undef,a.tmps.getD 46 undef,a.tmps.getD 47 undef,a.tmps.getD 48 undef,a.tmps.getD 49 undef,a.tmps.getD 50 undef,a.tmps.getD 51 undef,a.tmps.getD 52 undef,a.tmps.getD 53 undef,a.tmps.getD 54 undef,a.tmps.getD 55 undef,a.tmps.getD 56 undef,a.tmps.getD 57 undef,a.tmps.getD 58 undef,a.tmps.getD 59 undef,a.tmps.getD 60 undef,a.tmps.getD 61 undef,a.tmps.getD 62 undef,a.tmps.getD 63 undef,a.tmps.getD 64 undef,a.tmps.getD 65 undef,a.tmps.getD 66 undef,a.tmps.getD 67 undef,a.tmps.getD 68 undef,a.tmps.getD 69 undef,a.tmps.getD 70 undef,a.tmps.getD 71 undef,a.tmps.getD 72 undef,a.tmps.getD 73 undef,a.tmps.getD 74 undef,a.tmps.getD 75 undef,a.tmps.getD 76 undef,a.tmps.getD 77 undef,a.tmps.getD 78 undef,a.tmps.getD 79 undef,a.tmps.getD 80 undef,a.tmps.getD 81 undef,a.tmps.getD 82 undef,a.tmps.getD 83 undef,a.tmps.getD 84 undef,a.tmps.getD 85 undef,a.tmps.getD 86 undef,a.tmps.getD 87 undef,a.tmps.getD 88 undef,a.tmps.getD 89 undef,a.tmps.getD 90 undef,a.tmps.getD 91 undef,a.tmps.getD 92 undef,a.tmps.getD 93 undef,a.tmps.getD 94 undef,a.tmps.getD 95 undef,a.tmps.getD 96 undef,a.tmps.getD 97 undef,a.tmps.getD 98 undef,a.tmps.getD 99 undef,a.tmps.getD 100 undef,a.tmps.getD 101 undef,a.tmps.getD 102 undef],[]⟩->Wd1 w V a w':=fun a ha =>
  ⟨V5,vv,rv,v1,b3,⟨fun j=>a.tmps.getD j undef,ha⟩,fun j o h=>hV5 j o (hV4 j o (hV3 j o (hV2 j o (hV1 j o h)))),hk5,pW.mono (pW.mono (pW.mono hv1 hV3) hV4) hV5,hone,fun i v h=>(hc4 i v h).mono hV5,hS⟩
 exact bG (tgt:=[.inRegion Gv [1,2,3,4,5,6,7],.code Yz]) (key _ rfl)
def Wd2 (w:World) (V:View) (v1:Value) (b3:Nat) (a:Act) (w':World):Prop :=
 ∃ (V':View) (vv rv v7:Value) (b5:Nat),(∃ f:Nat->Value,a=⟨#[.bool false,v1,.int .i64 0,.pointer (some ⟨b3,0,none⟩),.int .i64 0,.pointer (some ⟨b5,0,none⟩),.int .i64 0,v7,.int .i64 0,f 9,f 10,f 11,f 12,f 13,f 14,f 15,f 16,f 17,f 18,f 19,f 20,f 21,f 22,f 23,f 24,f 25,f 26,f 27,f 28,f 29,f 30,f 31,f 32,f 33,f 34,f 35,f 36,.agg #[vv,rv],f 38,f 39,f 40,f 41,f 42,f 43,f 44,f 45,f 46,f 47,f 48,f 49,f 50,f 51,f 52,f 53,f 54,f 55,f 56,f 57,f 58,f 59,f 60,f 61,f 62,f 63,f 64,f 65,f 66,f 67,f 68,f 69,f 70,f 71,f 72,f 73,f 74,f 75,f 76,f 77,f 78,f 79,f 80,f 81,f 82,f 83,f 84,f 85,f 86,f 87,f 88,f 89,f 90,f 91,f 92,f 93,f 94,f 95,f 96,f 97,f 98,f 99,f 100,f 101,f 102],[]⟩)/\(∀ j o,V j=some o->V' j=some o)/\iJ V' vv rv (nJ [])/\VI V' v7 [1]/\v7.oneCell'=true/\(∀ i v,[Value.int .i64 1,.int .i64 5][i]? = some v->V'.Cell b5 i v)/\St w [] V' [] w'
theorem Vp (hB:Bs V) (hV:V.In w) (v1:Value) (b3:Nat) (f:Nat->Value):fA Tryd.prog [.inRegion qm [1,2,3,4,5,6,7,8],.code Zq] (Wd2 w V v1 b3) [.inRegion Gv [2,3,4,5,6,7],.code Yz] ⟨#[.bool false,v1,.int .i64 0,.pointer (some ⟨b3,0,none⟩),.int .i64 0,f 5,f 6,f 7,f 8,f 9,f 10,f 11,f 12,f 13,f 14,f 15,f 16,f 17,f 18,f 19,f 20,f 21,f 22,f 23,f 24,f 25,.tuple #[.agg #[.int .i64 1,.int .i64 5],.int .i64 0],f 27,f 28,f 29,f 30,f 31,f 32,f 33,f 34,f 35,f 36,f 37,f 38,f 39,f 40,f 41,f 42,f 43,f 44,f 45,f 46,f 47,f 48,f 49,f 50,f 51,f 52,f 53,f 54,f 55,f 56,f 57,f 58,f 59,f 60,f 61,f 62,f 63,f 64,f 65,f 66,f 67,f 68,f 69,f 70,f 71,f 72,f 73,f 74,f 75,f 76,f 77,f 78,f 79,f 80,f 81,f 82,f 83,f 84,f 85,f 86,f 87,f 88,f 89,f 90,f 91,f 92,f 93,f 94,f 95,f 96,f 97,f 98,f 99,f 100,f 101,f 102],[]⟩ w:=by
 have hS:=St.start w V hV
 refine cO (i:=2) (v:=.tuple #[.agg #[.int .i64 1,.int .i64 5],.int .i64 0]) (w':=w) rfl rfl rfl ?_
 refine cO (i:=3) (v:=.agg #[.int .i64 1,.int .i64 5]) (w':=w) rfl rfl rfl ?_
 refine cO (i:=4) (v:=.int .i64 0) (w':=w) rfl rfl rfl ?_
 refine cO (i:=5) rfl rfl (Aq (P:=Tryd.prog) hS (cs:=[.int .i64 0,.int .i64 0]) rfl (by kernel_rfl) (by kernel_rfl)).1 ?_
 replace hS:=hS.alloc 27 [.int .i64 0,.int .i64 0]
 generalize w.alloc (.cells [Value.int .i64 0,.int .i64 0].toArray 27)=w1 at hS |-
 obtain⟨b5,hb5⟩:∃ b5,w.heap.size=b5:=⟨_,rfl⟩
 rw[hb5]at hS |-
 refine xK hS (i:=6) (vs:=[.int .i64 1,.int .i64 5]) rfl rfl rfl (j:=0) (i':=0) (n:=2) rfl rfl rfl (by simp[Value.oneCell']) (by kernel_rfl) rfl (by simp) ?_
 clear hS
 intro w2 hS
 simp only[List.set_cons_zero,splice,List.take_zero,List.nil_append,List.length_cons,List.length_nil,Nat.zero_add,List.append_nil,List.drop_nil,Nat.reduceAdd,List.drop_succ_cons,List.drop_zero]at hS
 refine cO (i:=7) (v:=.int .i64 0) (w':=w2) rfl rfl rfl ?_
 refine dH ?_
 show fA Tryd.prog [.inRegion qm [1,2,3,4,5,6,7,8],.code Zq] (Wd2 w V v1 b3) [.code Yz] ⟨#[.bool false,v1,.int .i64 0,.pointer (some ⟨b3,0,none⟩),.int .i64 0,.pointer (some ⟨b5,0,none⟩),.int .i64 0,f 7,f 8,f 9,f 10,f 11,f 12,f 13,f 14,f 15,f 16,f 17,f 18,f 19,f 20,f 21,f 22,f 23,.tuple #[.agg #[.int .i64 1,.int .i64 5],.int .i64 0],f 25,.tuple #[.agg #[.int .i64 1,.int .i64 5],.int .i64 0],.agg #[.int .i64 1,.int .i64 5],.int .i64 0,f 29,f 30,f 31,f 32,f 33,f 34,f 35,f 36,f 37,f 38,f 39,f 40,f 41,f 42,f 43,f 44,f 45,f 46,f 47,f 48,f 49,f 50,f 51,f 52,f 53,f 54,f 55,f 56,f 57,f 58,f 59,f 60,f 61,f 62,f 63,f 64,f 65,f 66,f 67,f 68,f 69,f 70,f 71,f 72,f 73,f 74,f 75,f 76,f 77,f 78,f 79,f 80,f 81,f 82,f 83,f 84,f 85,f 86,f 87,f 88,f 89,f 90,f 91,f 92,f 93,f 94,f 95,f 96,f 97,f 98,f 99,f 100,f 101,f 102],[]⟩ w2
 obtain⟨V1,hV1,hc1,hS1⟩:=pin hS
 clear hS
 have hS:=hS1
 clear hS1
 have hB1:=hB.mono hV1
 refine au (aA ?_)
 go_wp2_with (first|(fail)|(go_at_call 42;refine aH hS ⟨_,y9 _ _ _ _ _,?_⟩;clear hS;(try clear w');intro w' hS) |
  ((with_reducible refine uP ?_);refine zU hS rfl (oP (a:=⟨1,0,20,1⟩) rfl rfl) ?_;clear hS;(try clear w');intro bm a' hp;(try simp only[fr]at hp);subst hp;intro w' hS;obtain⟨V2,hV2,hc2,hS2⟩:=pin hS;clear hS;have hS:=hS2;clear hS2) |
  (go_at_call 75;refine Ba hS (hB1.mono hV2) hc2 ?_;clear hS;(try clear w');intro V3 vv3 rv3 w' hV3 hk3 hS) |
  (go_at_call 34;refine MV hS ((hB1.mono hV2).mono hV3) hk3 SE ?_;clear hS;(try clear w');intro V4 v7 w' hV4 hv7 hone hS))
 have hB4:Bs V4:=((hB1.mono hV2).mono hV3).mono hV4
 refine au (ig ?_)
 refine rZ (i:=0) rfl rfl (run_call_body rfl Tryd.func75 (by kernel_rfl) rfl) ?_
 simp only[List.map_toArray,List.map_cons,List.map_nil]
 show Calls Tryd.prog 75 #[.slice none 0 0] _ _
 refine tZ hS hB4 ?_
 clear hS
 intro V5 vv rv w' hV5 hk5 hS
 refine⟨_,rfl,?_⟩
 have key:∀ a:Act,a=⟨#[.bool false,v1,.int .i64 0,.pointer (some ⟨b3,0,none⟩),.int .i64 0,.pointer (some ⟨b5,0,none⟩),.int .i64 0,v7,.int .i64 0,a.tmps.getD 9 undef,a.tmps.getD 10 undef,a.tmps.getD 11 undef,a.tmps.getD 12 undef,a.tmps.getD 13 undef,a.tmps.getD 14 undef,a.tmps.getD 15 undef,a.tmps.getD 16 undef,a.tmps.getD 17 undef,a.tmps.getD 18 undef,a.tmps.getD 19 undef,a.tmps.getD 20 undef,a.tmps.getD 21 undef,a.tmps.getD 22 undef,a.tmps.getD 23 undef,a.tmps.getD 24 undef,a.tmps.getD 25 undef,a.tmps.getD 26 undef,a.tmps.getD 27 undef,a.tmps.getD 28 undef,a.tmps.getD 29 undef,a.tmps.getD 30 undef,a.tmps.getD 31 undef,a.tmps.getD 32 undef,a.tmps.getD 33 undef,a.tmps.getD 34 undef,a.tmps.getD 35 undef,a.tmps.getD 36 undef,.agg #[vv,rv],a.tmps.getD 38 undef,a.tmps.getD 39 undef,a.tmps.getD 40 undef,a.tmps.getD 41 undef,a.tmps.getD 42 undef,a.tmps.getD 43 undef,a.tmps.getD 44 undef,a.tmps.getD 45 undef,a.tmps.getD 46 undef,a.tmps.getD 47 undef,a.tmps.getD 48 undef,a.tmps.getD 49 undef,a.tmps.getD 50 undef,a.tmps.getD 51 undef,a.tmps.getD 52 undef,a.tmps.getD 53 undef,a.tmps.getD 54 undef,a.tmps.getD 55 undef,a.tmps.getD 56 undef,a.tmps.getD 57 undef,a.tmps.getD 58 undef,a.tmps.getD 59 undef,a.tmps.getD 60 undef,a.tmps.getD 61 undef,a.tmps.getD 62 undef,a.tmps.getD 63 undef,a.tmps.getD 64 undef,a.tmps.getD 65 undef,a.tmps.getD 66 undef,a.tmps.getD 67 undef,a.tmps.getD 68 undef,a.tmps.getD 69 undef,a.tmps.getD 70 undef,a.tmps.getD 71 undef,a.tmps.getD 72 undef,a.tmps.getD 73 undef,a.tmps.getD 74 undef,a.tmps.getD 75 undef,a.tmps.getD 76 undef,a.tmps.getD 77 undef,a.tmps.getD 78 undef,a.tmps.getD 79 undef,a.tmps.getD 80 undef,a.tmps.getD 81 undef,a.tmps.getD 82 undef,a.tmps.getD 83 undef,a.tmps.getD 84 undef,a.tmps.getD 85 undef,a.tmps.getD 86 undef,a.tmps.getD 87 undef,a.tmps.getD 88 undef,a.tmps.getD 89 undef,a.tmps.getD 90 undef,a.tmps.getD 91 undef,a.tmps.getD 92 undef,a.tmps.getD 93 undef,a.tmps.getD 94 undef,a.tmps.getD 95 undef,a.tmps.getD 96 undef,a.tmps.getD 97 undef,a.tmps.getD 98 undef,a.tmps.getD 99 undef,a.tmps.getD 100 undef,a.tmps.getD 101 undef,a.tmps.getD 102 undef],[]⟩->Wd2 w V v1 b3 a w':=fun a ha =>
  ⟨V5,vv,rv,v7,b5,⟨fun j=>a.tmps.getD j undef,ha⟩,fun j o h=>hV5 j o (hV4 j o (hV3 j o (hV2 j o (hV1 j o h)))),hk5,pW.mono hv7 hV5,hone,fun i v h=>(((hc1 i v h).mono hV2).mono hV3 |>.mono hV4).mono hV5,hS⟩
 exact bG (tgt:=[.inRegion qm [1,2,3,4,5,6,7,8],.code Zq]) (key _ rfl)
theorem TD {o:Oper} {ρ:Operand->Value} {x y:Operand} (ho:o.op=.binOp .eql 27 x y 27) (hx:ρ x=.agg #[.int .i64 15,.int .i64 17]) (hy:ρ y=.agg #[.int .i64 15,.int .i64 17]) (w:World):(execOp ρ o).run Tryd.prog w=.ok (.value (.bool true)) w:=by
 unfold execOp
 simp only[ho,hx,hy]
 kernel_rfl
theorem Sm {o:Oper} {ρ:Operand->Value} {x y:Operand} (ho:o.op=.binOp .eql 27 x y 27) (hx:ρ x=.agg #[.int .i64 1,.int .i64 5]) (hy:ρ y=.agg #[.int .i64 1,.int .i64 5]) (w:World):(execOp ρ o).run Tryd.prog w=.ok (.value (.bool true)) w:=by
 unfold execOp
 simp only[ho,hx,hy]
 kernel_rfl
theorem aaX {ops:Array Oper} {Q:Exit->Act->World->Prop} {d:Option Tmp} {x y:Operand} {t:TypeId} {p:String} {af:Array Edge} {g:Option (Nat × Bool)} {rest:List Oper} {a:Act} (h:wpList Tryd.prog ops Q (⟨d,.binOp .eql 27 x y 27,t,p,af,g⟩::rest) a w):wpList Tryd.prog ops Q (⟨d,.binOp .eql 27 x y 27,t,p,af,g⟩::rest) a w:=h
theorem UN (hB:Bs V) (hV:V.In w) (v1 v7:Value) (b3 b5:Nat) (o1:v1.oneCell'=true) (o7:v7.oneCell'=true) (h1:VI V v1 [29,15,11,15]) (h7:VI V v7 [1]) (h3:∀ i v,[Value.int .i64 15,.int .i64 17][i]? = some v->V.Cell b3 i v) (h5:∀ i v,[Value.int .i64 1,.int .i64 5][i]? = some v->V.Cell b5 i v) (f:Nat->Value) :
  fA Tryd.prog [.code .ret] (fun a w'=>a.tmps[0]? = some (.bool true)/\a.defers=[]/\Kp w w') [.inRegion qm [2,3,4,5,6,7,8],.code Zq] ⟨#[.bool false,v1,.int .i64 0,.pointer (some ⟨b3,0,none⟩),.int .i64 0,.pointer (some ⟨b5,0,none⟩),.int .i64 0,v7,.int .i64 0,f 9,f 10,f 11,f 12,f 13,f 14,f 15,f 16,f 17,f 18,f 19,f 20,f 21,f 22,f 23,f 24,f 25,f 26,f 27,f 28,f 29,f 30,f 31,f 32,f 33,f 34,f 35,f 36,f 37,.tuple #[.int .i64 0,.int .i64 3,.int .i64 0],f 39,f 40,f 41,f 42,f 43,f 44,f 45,f 46,f 47,f 48,f 49,f 50,f 51,f 52,f 53,f 54,f 55,f 56,f 57,f 58,f 59,f 60,f 61,f 62,f 63,f 64,f 65,f 66,f 67,f 68,f 69,f 70,f 71,f 72,f 73,f 74,f 75,f 76,f 77,f 78,f 79,f 80,f 81,f 82,f 83,f 84,f 85,f 86,f 87,f 88,f 89,f 90,f 91,f 92,f 93,f 94,f 95,f 96,f 97,f 98,f 99,f 100,f 101,f 102],[]⟩ w:=by
 have hS:=St.start w V hV
 refine cO (i:=2) (v:=.tuple #[.int .i64 0,.int .i64 3,.int .i64 0]) (w':=w) rfl rfl rfl ?_
 show fA Tryd.prog [.code .ret] _ (.inRegion qm [3,4,5,6,7,8]::_) ⟨#[.bool false,v1,.int .i64 0,.pointer (some ⟨b3,0,none⟩),.int .i64 0,.pointer (some ⟨b5,0,none⟩),.int .i64 0,v7,.int .i64 0,f 9,f 10,f 11,f 12,f 13,f 14,f 15,f 16,f 17,f 18,f 19,f 20,f 21,f 22,f 23,f 24,f 25,f 26,f 27,f 28,f 29,f 30,f 31,f 32,f 33,f 34,f 35,.tuple #[.int .i64 0,.int .i64 3,.int .i64 0],f 37,.tuple #[.int .i64 0,.int .i64 3,.int .i64 0],f 39,f 40,f 41,f 42,f 43,f 44,f 45,f 46,f 47,f 48,f 49,f 50,f 51,f 52,f 53,f 54,f 55,f 56,f 57,f 58,f 59,f 60,f 61,f 62,f 63,f 64,f 65,f 66,f 67,f 68,f 69,f 70,f 71,f 72,f 73,f 74,f 75,f 76,f 77,f 78,f 79,f 80,f 81,f 82,f 83,f 84,f 85,f 86,f 87,f 88,f 89,f 90,f 91,f 92,f 93,f 94,f 95,f 96,f 97,f 98,f 99,f 100,f 101,f 102],[]⟩ w
 refine cO (i:=3) (v:=.int .i64 0) (w':=w) rfl rfl rfl ?_
 show fA Tryd.prog [.code .ret] _ (.inRegion qm [4,5,6,7,8]::_) ⟨#[.bool false,v1,.int .i64 0,.pointer (some ⟨b3,0,none⟩),.int .i64 0,.pointer (some ⟨b5,0,none⟩),.int .i64 0,v7,.int .i64 0,f 9,f 10,f 11,f 12,f 13,f 14,f 15,f 16,f 17,f 18,f 19,f 20,f 21,f 22,f 23,f 24,f 25,f 26,f 27,f 28,f 29,f 30,f 31,f 32,f 33,f 34,f 35,.tuple #[.int .i64 0,.int .i64 3,.int .i64 0],f 37,.tuple #[.int .i64 0,.int .i64 3,.int .i64 0],.int .i64 0,f 40,f 41,f 42,f 43,f 44,f 45,f 46,f 47,f 48,f 49,f 50,f 51,f 52,f 53,f 54,f 55,f 56,f 57,f 58,f 59,f 60,f 61,f 62,f 63,f 64,f 65,f 66,f 67,f 68,f 69,f 70,f 71,f 72,f 73,f 74,f 75,f 76,f 77,f 78,f 79,f 80,f 81,f 82,f 83,f 84,f 85,f 86,f 87,f 88,f 89,f 90,f 91,f 92,f 93,f 94,f 95,f 96,f 97,f 98,f 99,f 100,f 101,f 102],[]⟩ w
 refine cO (i:=4) (v:=.int .i64 3) (w':=w) rfl rfl rfl ?_
 show fA Tryd.prog [.code .ret] _ (.inRegion qm [5,6,7,8]::_) ⟨#[.bool false,v1,.int .i64 0,.pointer (some ⟨b3,0,none⟩),.int .i64 0,.pointer (some ⟨b5,0,none⟩),.int .i64 0,v7,.int .i64 0,f 9,f 10,f 11,f 12,f 13,f 14,f 15,f 16,f 17,f 18,f 19,f 20,f 21,f 22,f 23,f 24,f 25,f 26,f 27,f 28,f 29,f 30,f 31,f 32,f 33,f 34,f 35,.tuple #[.int .i64 0,.int .i64 3,.int .i64 0],f 37,.tuple #[.int .i64 0,.int .i64 3,.int .i64 0],.int .i64 0,.int .i64 3,f 41,f 42,f 43,f 44,f 45,f 46,f 47,f 48,f 49,f 50,f 51,f 52,f 53,f 54,f 55,f 56,f 57,f 58,f 59,f 60,f 61,f 62,f 63,f 64,f 65,f 66,f 67,f 68,f 69,f 70,f 71,f 72,f 73,f 74,f 75,f 76,f 77,f 78,f 79,f 80,f 81,f 82,f 83,f 84,f 85,f 86,f 87,f 88,f 89,f 90,f 91,f 92,f 93,f 94,f 95,f 96,f 97,f 98,f 99,f 100,f 101,f 102],[]⟩ w
 refine cO (i:=5) (v:=.int .i64 0) (w':=w) rfl rfl rfl ?_
 show fA Tryd.prog [.code .ret] _ (.inRegion qm [6,7,8]::_) ⟨#[.bool false,v1,.int .i64 0,.pointer (some ⟨b3,0,none⟩),.int .i64 0,.pointer (some ⟨b5,0,none⟩),.int .i64 0,v7,.int .i64 0,f 9,f 10,f 11,f 12,f 13,f 14,f 15,f 16,f 17,f 18,f 19,f 20,f 21,f 22,f 23,f 24,f 25,f 26,f 27,f 28,f 29,f 30,f 31,f 32,f 33,f 34,f 35,.tuple #[.int .i64 0,.int .i64 3,.int .i64 0],f 37,.tuple #[.int .i64 0,.int .i64 3,.int .i64 0],.int .i64 0,.int .i64 3,.int .i64 0,f 42,f 43,f 44,f 45,f 46,f 47,f 48,f 49,f 50,f 51,f 52,f 53,f 54,f 55,f 56,f 57,f 58,f 59,f 60,f 61,f 62,f 63,f 64,f 65,f 66,f 67,f 68,f 69,f 70,f 71,f 72,f 73,f 74,f 75,f 76,f 77,f 78,f 79,f 80,f 81,f 82,f 83,f 84,f 85,f 86,f 87,f 88,f 89,f 90,f 91,f 92,f 93,f 94,f 95,f 96,f 97,f 98,f 99,f 100,f 101,f 102],[]⟩ w
 refine cO (i:=6) (v:=.int .i64 0) (w':=w) rfl rfl rfl ?_
 show fA Tryd.prog [.code .ret] _ (.inRegion qm [7,8]::_) ⟨#[.bool false,v1,.int .i64 0,.pointer (some ⟨b3,0,none⟩),.int .i64 0,.pointer (some ⟨b5,0,none⟩),.int .i64 0,v7,.int .i64 0,.int .i64 0,f 10,f 11,f 12,f 13,f 14,f 15,f 16,f 17,f 18,f 19,f 20,f 21,f 22,f 23,f 24,f 25,f 26,f 27,f 28,f 29,f 30,f 31,f 32,f 33,f 34,f 35,.tuple #[.int .i64 0,.int .i64 3,.int .i64 0],f 37,.tuple #[.int .i64 0,.int .i64 3,.int .i64 0],.int .i64 0,.int .i64 3,.int .i64 0,f 42,f 43,f 44,f 45,f 46,f 47,f 48,f 49,f 50,f 51,f 52,f 53,f 54,f 55,f 56,f 57,f 58,f 59,f 60,f 61,f 62,f 63,f 64,f 65,f 66,f 67,f 68,f 69,f 70,f 71,f 72,f 73,f 74,f 75,f 76,f 77,f 78,f 79,f 80,f 81,f 82,f 83,f 84,f 85,f 86,f 87,f 88,f 89,f 90,f 91,f 92,f 93,f 94,f 95,f 96,f 97,f 98,f 99,f 100,f 101,f 102],[]⟩ w
 refine cO (i:=7) (v:=.int .i64 3) (w':=w) rfl rfl rfl ?_
 show fA Tryd.prog [.code .ret] _ (.inRegion qm [8]::_) ⟨#[.bool false,v1,.int .i64 0,.pointer (some ⟨b3,0,none⟩),.int .i64 0,.pointer (some ⟨b5,0,none⟩),.int .i64 0,v7,.int .i64 0,.int .i64 0,.int .i64 3,f 11,f 12,f 13,f 14,f 15,f 16,f 17,f 18,f 19,f 20,f 21,f 22,f 23,f 24,f 25,f 26,f 27,f 28,f 29,f 30,f 31,f 32,f 33,f 34,f 35,.tuple #[.int .i64 0,.int .i64 3,.int .i64 0],f 37,.tuple #[.int .i64 0,.int .i64 3,.int .i64 0],.int .i64 0,.int .i64 3,.int .i64 0,f 42,f 43,f 44,f 45,f 46,f 47,f 48,f 49,f 50,f 51,f 52,f 53,f 54,f 55,f 56,f 57,f 58,f 59,f 60,f 61,f 62,f 63,f 64,f 65,f 66,f 67,f 68,f 69,f 70,f 71,f 72,f 73,f 74,f 75,f 76,f 77,f 78,f 79,f 80,f 81,f 82,f 83,f 84,f 85,f 86,f 87,f 88,f 89,f 90,f 91,f 92,f 93,f 94,f 95,f 96,f 97,f 98,f 99,f 100,f 101,f 102],[]⟩ w
 refine cO (i:=8) (v:=.int .i64 0) (w':=w) rfl rfl rfl ?_
 show fA Tryd.prog [.code .ret] _ (.inRegion qm []::_) ⟨#[.bool false,v1,.int .i64 0,.pointer (some ⟨b3,0,none⟩),.int .i64 0,.pointer (some ⟨b5,0,none⟩),.int .i64 0,v7,.int .i64 0,.int .i64 0,.int .i64 3,.int .i64 0,f 12,f 13,f 14,f 15,f 16,f 17,f 18,f 19,f 20,f 21,f 22,f 23,f 24,f 25,f 26,f 27,f 28,f 29,f 30,f 31,f 32,f 33,f 34,f 35,.tuple #[.int .i64 0,.int .i64 3,.int .i64 0],f 37,.tuple #[.int .i64 0,.int .i64 3,.int .i64 0],.int .i64 0,.int .i64 3,.int .i64 0,f 42,f 43,f 44,f 45,f 46,f 47,f 48,f 49,f 50,f 51,f 52,f 53,f 54,f 55,f 56,f 57,f 58,f 59,f 60,f 61,f 62,f 63,f 64,f 65,f 66,f 67,f 68,f 69,f 70,f 71,f 72,f 73,f 74,f 75,f 76,f 77,f 78,f 79,f 80,f 81,f 82,f 83,f 84,f 85,f 86,f 87,f 88,f 89,f 90,f 91,f 92,f 93,f 94,f 95,f 96,f 97,f 98,f 99,f 100,f 101,f 102],[]⟩ w
 refine dH ?_
 show fA Tryd.prog [.code .ret] _ [.code Zq] ⟨#[.bool false,v1,.int .i64 0,.pointer (some ⟨b3,0,none⟩),.int .i64 0,.pointer (some ⟨b5,0,none⟩),.int .i64 0,v7,.int .i64 0,.int .i64 0,.int .i64 3,.int .i64 0,f 12,f 13,f 14,f 15,f 16,f 17,f 18,f 19,f 20,f 21,f 22,f 23,f 24,f 25,f 26,f 27,f 28,f 29,f 30,f 31,f 32,f 33,f 34,f 35,.tuple #[.int .i64 0,.int .i64 3,.int .i64 0],f 37,.tuple #[.int .i64 0,.int .i64 3,.int .i64 0],.int .i64 0,.int .i64 3,.int .i64 0,f 42,f 43,f 44,f 45,f 46,f 47,f 48,f 49,f 50,f 51,f 52,f 53,f 54,f 55,f 56,f 57,f 58,f 59,f 60,f 61,f 62,f 63,f 64,f 65,f 66,f 67,f 68,f 69,f 70,f 71,f 72,f 73,f 74,f 75,f 76,f 77,f 78,f 79,f 80,f 81,f 82,f 83,f 84,f 85,f 86,f 87,f 88,f 89,f 90,f 91,f 92,f 93,f 94,f 95,f 96,f 97,f 98,f 99,f 100,f 101,f 102],[]⟩ w
 refine au (aA ?_)
 go_wp2_with (first|(fail)|(go_at_call 42;refine aH hS ⟨_,y9 _ _ _ _ _,?_⟩;clear hS;(try clear w');intro w' hS) |
  ((with_reducible refine uP ?_);refine zU hS rfl (oP (a:=⟨1,0,20,1⟩) rfl rfl) ?_;clear hS;(try clear w');intro bm a' hp;(try simp only[fr]at hp);subst hp;intro w' hS;obtain⟨V2,hV2,hc2,hS2⟩:=pin hS;clear hS;have hS:=hS2;clear hS2) |
  (go_at_call 75;refine Ba hS (hB.mono hV2) hc2 ?_;clear hS;(try clear w');intro V3 vv3 rv3 w' hV3 hk3 hS) |
  (go_at_call 51;refine JC hS ((hB.mono hV2).mono hV3) hk3 NZ ?_;clear hS;(try clear w');intro w' hS))
 have hB3:Bs V3:=(hB.mono hV2).mono hV3
 have h1':VI V3 v1 [29,15,11,15]:=pW.mono (pW.mono h1 hV2) hV3
 have h7':VI V3 v7 [1]:=pW.mono (pW.mono h7 hV2) hV3
 have hr3:V3.Range b3 0 [.int .i64 15,.int .i64 17]:=fun j v hj=>by rw[Nat.zero_add];exact((h3 j v hj).mono hV2).mono hV3
 have hr5:V3.Range b5 0 [.int .i64 1,.int .i64 5]:=fun j v hj=>by rw[Nat.zero_add];exact((h5 j v hj).mono hV2).mono hV3
 clear h1 h7 h3 h5 hc2
 refine au (aA ?_)
 go_wp2_with (first|(((with_reducible refine gL ?_);refine zQ hS rfl rfl rfl ?_);refine⟨_,zd,?_⟩;clear hS;(try clear w');refine zF ?_;intro w' hS)|((with_reducible refine aaX ?_);first|(refine Gx rfl (TD rfl rfl rfl) ?_;refine zF ?_)|(refine Gx rfl (Sm rfl rfl rfl) ?_;refine zF ?_)) |
  (((with_reducible refine uP ?_);refine rE hS rfl rfl ?_;refine⟨_,zq,zd,?_⟩;clear hS;(try clear w');intro _;refine zF ?_;intro w' hS);obtain⟨V4,hV4,hc4,hS4⟩:=pin hS;clear hS;have hS:=hS4;clear hS4) |
  (go_at_call 31;first|(refine zu hS (pW.mono h1' hV4) (YD (l:=[29,15,11,15]) (by decide) hc4) (by decide) (by decide) rfl ?_;clear hS;(try clear w');clear h1';intro w' hS;replace h7':=pW.mono h7' hV4;clear hc4 hV4)|(refine zu hS (pW.mono h7' hV4) (YD (l:=[1]) (by decide) hc4) (by decide) (by decide) rfl ?_;clear hS;(try clear w');intro w' hS)))
 exact bG (tgt:=[.code .ret]) ⟨rfl,rfl,hS.bM⟩
theorem Oh {b:Frame} {cs:List Frame} {Q:Goroutine->World->Prop} {a:Act} {N:FuncId} {args:Array Value} {R:Ending->World->Prop} {ops:Array Oper} {l:List Nat} {k0:List Item} {i:Nat} {o:Oper} (hc:kL Tryd.prog N args w R) (hh:ay OC w) (hbk:b.kind=.normal)
  (ho:ops[i]? = some o) (hw:Region.wanted o (yielded ops a.tmps)=true) (hok':qj true o.op=true) (hr:∀ w,(execOp a.eval o).run Tryd.prog w=.ok (.enter N args) w) (hpan:∀ ch w,¬ R (.panicked ch) w)
  (hk:∀ v w',R (.returned v) w'->ay OC w'->kU Tryd.prog (G (b.at (a.put o.dst v) (.inRegion ops l::k0)) cs) w' Q):kU Tryd.prog (G (b.at a (.inRegion ops (i::l)::k0)) cs) w Q:=by
 refine Ou lT ho hw (by rw[hbk];decide) hok' hh (fun _ _ _=>trivial) fun d=>?_
 rw[hr]
 intro hhd
 have hat:∀ {Q:Goroutine->World->Prop} {g:Goroutine},kU Tryd.prog g w Q->kU Tryd.prog g (w.at d) Q:=fun h=>h.at
 exact hat (xI ho hc (fun v w1 hv hh1=>hk v w1 hv hh1) fun ch w1 hv _=>(hpan ch w1 hv).elim)
theorem Vo {P:Program} {b:Frame} {cs:List Frame} {a:Act} {f:FuncId} {fn:Func} {v:Value} {R:Ending->World->Prop} {k0:List Item} (hb:b.fn=f) (hbk:b.kind=.normal) (hd:a.defers=[]) (hf:P.funcs[f]? = some fn) (hw:ay OC w) (hr:(results fn a.tmps).run P w=.ok v w) (hR:R (.returned v) w) (hins:Ins R) :
  kU P (G (b.at a (.code .ret::k0)) cs) w (fun a' w'=>∃ e fr,a'=G fr cs/\R e w'/\fr.fn=f/\fr.leaving P w' e/\e≠.outgrown/\ay OC w') :=
 CV (Hz hb hbk hd hf hw hr hR hins)
theorem TB (hB:Bs V) (hV:V.In w) (hh:ay OC w):kL Tryd.prog 21 #[] w fun r w'=>r=.returned (.bool true)/\Kp w w':=by
 refine jD Tryd.func21 (show Tryd.f21.body=some B21 from rfl) fun cs b hbf hbk hbr=>?_
 have e103:Tryd.f21.ntmps-(#[]:Array Value).size=103:=by kernel_rfl
 rw[e103]
 obtain⟨tm0,htm⟩:∃ tm0,(#[]:Array Value) ++ Array.replicate 103 undef=tm0:=⟨_,rfl⟩
 rw[htm]
 refine vI (tgt:=[.inRegion Gv [1,2,3,4,5,6,7],.code Yz]) hbf hbk (show[Item.code B21].all qy=true by kernel_rfl) (fun d hd=>nomatch hd) hh (S:=Wd1 w V)
  (fun a w' τ d ⟨V',vv,rv,v1,b3,h1,h2,h3,h4,h5,h6,h7⟩=>⟨V',vv,rv,v1,b3,h1,h2,h3,h4,h5,h6,h7.re1 τ d⟩) (fun τ d=>?_) ?_
 ·rw [<- htm]
  refine(U2 (w:=w.re τ d) hB hV).mono ?_
  rintro a w' ⟨V',vv,rv,v1,b3,h1,h2,h3,h4,h5,h6,h7⟩
  exact⟨V',vv,rv,v1,b3,h1,h2,h3,h4,h5,h6,h7.re0⟩
 rintro a w1 ⟨V1,vv,rv,v1,b3,⟨f,rfl⟩,hV1,hk1,hv1,ho1,hc3,hS1⟩ hh1
 have hB1:=hB.mono hV1
 have hL:=ZB vv rv (nJ []) hk1 hB1.gv hS1.view hh1
 rw[Vg]at hL
 refine Oh (i:=1) (o:=Gv[1]!) hL hh1 hbk rfl rfl rfl (fun w=>?_) (fun ch w h=>nomatch h.1) ?_
 ·rw [run_call_body rfl Tryd.func40 (by kernel_rfl) rfl]
  simp only[List.map_toArray,List.map_cons,List.map_nil]
  rfl
 rintro v w2 ⟨hv,hk2⟩ hh2
 cases hv
 have hS2:=hS1.kp hk2
 obtain⟨a2,ha2⟩:∃ a2:Act,a2=⟨#[.bool false,v1,.int .i64 0,.pointer (some ⟨b3,0,none⟩),.int .i64 0,f 5,f 6,f 7,f 8,f 9,f 10,f 11,f 12,f 13,f 14,f 15,f 16,f 17,f 18,f 19,f 20,f 21,f 22,f 23,f 24,.agg #[vv,rv],.tuple #[.agg #[.int .i64 1,.int .i64 5],.int .i64 0],f 27,f 28,f 29,f 30,f 31,f 32,f 33,f 34,f 35,f 36,f 37,f 38,f 39,f 40,f 41,f 42,f 43,f 44,f 45,f 46,f 47,f 48,f 49,f 50,f 51,f 52,f 53,f 54,f 55,f 56,f 57,f 58,f 59,f 60,f 61,f 62,f 63,f 64,f 65,f 66,f 67,f 68,f 69,f 70,f 71,f 72,f 73,f 74,f 75,f 76,f 77,f 78,f 79,f 80,f 81,f 82,f 83,f 84,f 85,f 86,f 87,f 88,f 89,f 90,f 91,f 92,f 93,f 94,f 95,f 96,f 97,f 98,f 99,f 100,f 101,f 102],[]⟩:=⟨_,rfl⟩
 have eA:(Act.put ⟨#[.bool false,v1,.int .i64 0,.pointer (some ⟨b3,0,none⟩),.int .i64 0,f 5,f 6,f 7,f 8,f 9,f 10,f 11,f 12,f 13,f 14,f 15,f 16,f 17,f 18,f 19,f 20,f 21,f 22,f 23,f 24,.agg #[vv,rv],f 26,f 27,f 28,f 29,f 30,f 31,f 32,f 33,f 34,f 35,f 36,f 37,f 38,f 39,f 40,f 41,f 42,f 43,f 44,f 45,f 46,f 47,f 48,f 49,f 50,f 51,f 52,f 53,f 54,f 55,f 56,f 57,f 58,f 59,f 60,f 61,f 62,f 63,f 64,f 65,f 66,f 67,f 68,f 69,f 70,f 71,f 72,f 73,f 74,f 75,f 76,f 77,f 78,f 79,f 80,f 81,f 82,f 83,f 84,f 85,f 86,f 87,f 88,f 89,f 90,f 91,f 92,f 93,f 94,f 95,f 96,f 97,f 98,f 99,f 100,f 101,f 102],[]⟩ (some 26) (.tuple #[aJ (1,5),.int .i64 0]))=a2:=by rw[ha2];rfl
 show kU Tryd.prog (G (b.at (Act.put ⟨#[.bool false,v1,.int .i64 0,.pointer (some ⟨b3,0,none⟩),.int .i64 0,f 5,f 6,f 7,f 8,f 9,f 10,f 11,f 12,f 13,f 14,f 15,f 16,f 17,f 18,f 19,f 20,f 21,f 22,f 23,f 24,.agg #[vv,rv],f 26,f 27,f 28,f 29,f 30,f 31,f 32,f 33,f 34,f 35,f 36,f 37,f 38,f 39,f 40,f 41,f 42,f 43,f 44,f 45,f 46,f 47,f 48,f 49,f 50,f 51,f 52,f 53,f 54,f 55,f 56,f 57,f 58,f 59,f 60,f 61,f 62,f 63,f 64,f 65,f 66,f 67,f 68,f 69,f 70,f 71,f 72,f 73,f 74,f 75,f 76,f 77,f 78,f 79,f 80,f 81,f 82,f 83,f 84,f 85,f 86,f 87,f 88,f 89,f 90,f 91,f 92,f 93,f 94,f 95,f 96,f 97,f 98,f 99,f 100,f 101,f 102],[]⟩ (some 26) (.tuple #[aJ (1,5),.int .i64 0])) (.inRegion Gv [2,3,4,5,6,7]::[.code Yz])) cs) w2 _
 rw[eA,ha2]
 refine vI (tgt:=[.inRegion qm [1,2,3,4,5,6,7,8],.code Zq]) hbf hbk (by kernel_rfl) (fun d hd=>nomatch hd) hh2 (S:=Wd2 w2 V1 v1 b3)
  (fun a w' τ d ⟨V',vv,rv,v1,b3,h1,h2,h3,h4,h5,h6,h7⟩=>⟨V',vv,rv,v1,b3,h1,h2,h3,h4,h5,h6,h7.re1 τ d⟩) (fun τ d=>?_) ?_
 ·refine (Vp (w:=w2.re τ d) hB1 hS2.view v1 b3 (fun j=>if j=25 then .agg #[vv,rv] else f j)).mono ?_
  rintro a w' ⟨V',vv,rv,v1,b3,h1,h2,h3,h4,h5,h6,h7⟩
  exact⟨V',vv,rv,v1,b3,h1,h2,h3,h4,h5,h6,h7.re0⟩
 clear eA ha2
 rintro a w3 ⟨V3,vv3,rv3,v7,b5,⟨f3,rfl⟩,hV3,hk3,hv7,ho7,hc5,hS3⟩ hh3
 have hB3:=hB1.mono hV3
 have hN:=Zn vv3 rv3 (nJ []) hk3 hB3.gv hS3.view hh3 0
 rw[Xa]at hN
 refine Oh (i:=1) (o:=qm[1]!) hN hh3 hbk rfl rfl rfl (fun w=>?_) (fun ch w h=>nomatch h.1) ?_
 ·rw [run_call_body rfl Tryd.func43 (by kernel_rfl) rfl]
  simp only[List.map_toArray,List.map_cons,List.map_nil]
  rfl
 rintro v w4 ⟨hv,hk4⟩ hh4
 cases hv
 have hS4:=hS3.kp hk4
 have hkp:=((hS1.bM.trans hk2).trans hS3.bM).trans hk4
 obtain⟨a4,ha4⟩:∃ a4:Act,a4=⟨#[.bool false,v1,.int .i64 0,.pointer (some ⟨b3,0,none⟩),.int .i64 0,.pointer (some ⟨b5,0,none⟩),.int .i64 0,v7,.int .i64 0,f3 9,f3 10,f3 11,f3 12,f3 13,f3 14,f3 15,f3 16,f3 17,f3 18,f3 19,f3 20,f3 21,f3 22,f3 23,f3 24,f3 25,f3 26,f3 27,f3 28,f3 29,f3 30,f3 31,f3 32,f3 33,f3 34,f3 35,f3 36,.agg #[vv3,rv3],.tuple #[.int .i64 0,.int .i64 3,.int .i64 0],f3 39,f3 40,f3 41,f3 42,f3 43,f3 44,f3 45,f3 46,f3 47,f3 48,f3 49,f3 50,f3 51,f3 52,f3 53,f3 54,f3 55,f3 56,f3 57,f3 58,f3 59,f3 60,f3 61,f3 62,f3 63,f3 64,f3 65,f3 66,f3 67,f3 68,f3 69,f3 70,f3 71,f3 72,f3 73,f3 74,f3 75,f3 76,f3 77,f3 78,f3 79,f3 80,f3 81,f3 82,f3 83,f3 84,f3 85,f3 86,f3 87,f3 88,f3 89,f3 90,f3 91,f3 92,f3 93,f3 94,f3 95,f3 96,f3 97,f3 98,f3 99,f3 100,f3 101,f3 102],[]⟩:=⟨_,rfl⟩
 have eA:(Act.put ⟨#[.bool false,v1,.int .i64 0,.pointer (some ⟨b3,0,none⟩),.int .i64 0,.pointer (some ⟨b5,0,none⟩),.int .i64 0,v7,.int .i64 0,f3 9,f3 10,f3 11,f3 12,f3 13,f3 14,f3 15,f3 16,f3 17,f3 18,f3 19,f3 20,f3 21,f3 22,f3 23,f3 24,f3 25,f3 26,f3 27,f3 28,f3 29,f3 30,f3 31,f3 32,f3 33,f3 34,f3 35,f3 36,.agg #[vv3,rv3],f3 38,f3 39,f3 40,f3 41,f3 42,f3 43,f3 44,f3 45,f3 46,f3 47,f3 48,f3 49,f3 50,f3 51,f3 52,f3 53,f3 54,f3 55,f3 56,f3 57,f3 58,f3 59,f3 60,f3 61,f3 62,f3 63,f3 64,f3 65,f3 66,f3 67,f3 68,f3 69,f3 70,f3 71,f3 72,f3 73,f3 74,f3 75,f3 76,f3 77,f3 78,f3 79,f3 80,f3 81,f3 82,f3 83,f3 84,f3 85,f3 86,f3 87,f3 88,f3 89,f3 90,f3 91,f3 92,f3 93,f3 94,f3 95,f3 96,f3 97,f3 98,f3 99,f3 100,f3 101,f3 102],[]⟩ (some 38) (.tuple #[.int .i64 0,.int .i64 3,.int .i64 0]))=a4:=by rw[ha4];rfl
 show kU Tryd.prog (G (b.at (Act.put ⟨#[.bool false,v1,.int .i64 0,.pointer (some ⟨b3,0,none⟩),.int .i64 0,.pointer (some ⟨b5,0,none⟩),.int .i64 0,v7,.int .i64 0,f3 9,f3 10,f3 11,f3 12,f3 13,f3 14,f3 15,f3 16,f3 17,f3 18,f3 19,f3 20,f3 21,f3 22,f3 23,f3 24,f3 25,f3 26,f3 27,f3 28,f3 29,f3 30,f3 31,f3 32,f3 33,f3 34,f3 35,f3 36,.agg #[vv3,rv3],f3 38,f3 39,f3 40,f3 41,f3 42,f3 43,f3 44,f3 45,f3 46,f3 47,f3 48,f3 49,f3 50,f3 51,f3 52,f3 53,f3 54,f3 55,f3 56,f3 57,f3 58,f3 59,f3 60,f3 61,f3 62,f3 63,f3 64,f3 65,f3 66,f3 67,f3 68,f3 69,f3 70,f3 71,f3 72,f3 73,f3 74,f3 75,f3 76,f3 77,f3 78,f3 79,f3 80,f3 81,f3 82,f3 83,f3 84,f3 85,f3 86,f3 87,f3 88,f3 89,f3 90,f3 91,f3 92,f3 93,f3 94,f3 95,f3 96,f3 97,f3 98,f3 99,f3 100,f3 101,f3 102],[]⟩ (some 38) (.tuple #[.int .i64 0,.int .i64 3,.int .i64 0])) (.inRegion qm [2,3,4,5,6,7,8]::[.code Zq])) cs) w4 _
 rw[eA,ha4]
 refine vI (tgt:=[.code .ret]) hbf hbk (by kernel_rfl) (fun d hd=>nomatch hd) hh4 (S:=fun a w'=>a.tmps[0]? = some (.bool true)/\a.defers=[]/\Kp w4 w')
  (fun a w' τ d h=>⟨h.1,h.2.1,adC h.2.2 τ d⟩) (fun τ d=>?_) ?_
 ·refine (UN (w:=w4.re τ d) hB3 hS4.view v1 v7 b3 b5 ho1 ho7 (pW.mono hv1 hV3) hv7 (fun i v h=>(hc3 i v h).mono hV3) hc5 (fun j=>if j=37 then .agg #[vv3,rv3] else f3 j)).mono ?_
  rintro a w' ⟨h1,h2,h3⟩
  exact⟨h1,h2,uq h3⟩
 rintro a w5 ⟨h0,hd,hk5⟩ hh5
 have g:a.tmps.getD 0 undef=.bool true:=by
  rw[Array.getD_eq_getD_getElem?,h0]
  rfl
 refine Vo (v:=.bool true) hbf hbk hd Tryd.func21 hh5 ?_ ⟨rfl,hkp.trans hk5⟩ xM
 have h:=results_tmp (fn:=Tryd.f21) (t:=0) (by kernel_rfl) a.tmps Tryd.prog w5
 rw[g]at h
 exact h
theorem oZ {P:Program} {l:List Oper} {md:Region.Mode} {o:Oper} {a:Act} {Q:Exit->Act->World->Prop} {S:World->Prop} {fuel:Nat} {listed:Array Bool} (i:Nat) (hr:Region.ready md l.toArray listed=[i]) (hi₀:l[i]? = some o) (hw:Region.wanted o (yielded l.toArray a.tmps)=true)
  (h:∃ f args,(execOp a.eval o).run P w=.ok (.enter f args) w/\Calls P f args w fun e w'=>∃ v,e=.returned v/\∀ a' l',a.put o.dst v=a'->listed.setIfInBounds i true=l'->S w'/\wpAnyH P md l.toArray Q S fuel l' a' w'):wpAnyH P md l.toArray Q S (fuel+1) listed a w:=by
 obtain⟨f,args,hr',hc⟩:=h
 exact mG hr (yB (R:=fun v w'=>∀ a' l',a.put o.dst v=a'->listed.setIfInBounds i true=l'->S w'/\wpAnyH P md l.toArray Q S fuel l' a' w') (jV hi₀) hw hr' hc fun v w' h=>h _ _ rfl rfl)
theorem wO {v:Value} {n sz:Nat} {get:Nat->List Value} (h:pW V v n sz get):v.oneCell'=true:=by
 obtain⟨a,cap,rfl,_⟩:=h.is
 rfl
end Go.Proofs.YtjjmefieegcddaaDoor
namespace Go.Tm
open Go
open Go.Conc
variable {P:Program}
section
variable {tgt k:List Item} {S:Act->World->Prop} {a:Act} {w:World}
theorem abn {todo todo':List Item} {a':Act} {w':World} (hs:∀ (b:Frame) (cs:List Frame),b.kind=.normal->Steps P (lone (b.at a todo) cs w) (lone (b.at a' todo') cs w')) (h:fA P tgt S todo' a' w'):fA P tgt S todo a w:=fun b cs hb=>by
 obtain⟨a2,w2,h1,h2⟩:=h b cs hb
 exact⟨a2,w2,h1,(hs b cs hb).trans h2⟩
theorem abT {ops:Array Oper} {l2:List Nat}:∀ (l1:List Nat) (a:Act) (w:World),wpOps P ops (fun e a' w'=>e=.normal/\fA P tgt S (.inRegion ops l2::k) a' w') l1 a w->fA P tgt S (.inRegion ops (l1 ++ l2)::k) a w
 | [],a,w,h=>h.2
 | i::rest,a,w,h=>by
  have ih:=abT (ops:=ops) (l2:=l2) rest
  simp only[wpOps]at h
  rw[List.cons_append]
  cases ho:ops[i]? with
  |none =>
   simp only[ho]at h
   refine abn (fun b cs _=>?_) (ih a w h)
   have hs:=step_op_skip (P:=P) (b:=b) (a:=a) (k:=k) (cs:=cs) (w:=w) (ops:=ops) (i:=i) (rest:=rest ++ l2) (by simp[ho])
   simp only[ho,Option.bind_none,Act.put]at hs
   exact .one hs
  | some o =>
   simp only[ho]at h
   by_cases hw:Region.wanted o (yielded ops a.tmps)=true
   ·simp only [hw,if_true] at h
    rcases h with h|⟨hasks,a₀,w₀,hq⟩
    case inr=>exact nomatch hq.1
    simp only[Oper.wp,Oper.upon]at h
    split at h
    ·rename_i v w' hr
     exact cO ho hw hr (ih _ _ h)
    ·rename_i w' hr
     exact Q8 ho hw hr (ih _ _ h)
    ·rename_i d w' hr
     refine abn (fun b cs _=>.one (step_lone_go ?_)) (ih _ _ h)
     have hg:=stepG_op (P:=P) (b:=b) (k:=k) (cs:=cs) (w:=w) (rest:=rest ++ l2) ho hw
     have:({b.at a (.inRegion ops (i::(rest ++ l2))::k)with defers:=d::a.defers}:Frame).finish undef =
       b.at ({a with defers:=d::a.defers}.put o.dst undef) (.inRegion ops (rest ++ l2)::k):=by
      have:=Frame.finish_at b {a with defers:=d::a.defers} ops i (rest ++ l2) k undef
      rw[ho]at this;exact this
     rw[hg];simp only[stepG.apply,Sem.runT_eq,hr,GStep.bare_after]
     exact congrArg (fun fr=>GStep.go {frame:=fr,callers:=cs,status:=.running,dying:=none} w') this
    ·rename_i f args w' hr
     refine rZ ho hw hr (h.mono fun e w'' hR=>?_)
     cases e with
     |returned v=>exact⟨v,rfl,ih _ _ hR⟩
     |panicked chain=>exact nomatch hR.1
     |outgrown =>
      obtain⟨a₀,w₀,hq⟩:=hR
      exact nomatch hq.1
    ·rename_i row args w' hr
     intro b cs hb
     have hg:=stepG_op (P:=P) (b:=b) (k:=k) (cs:=cs) (w:=w) (rest:=rest ++ l2) ho hw
     have hfin:∀ v,(b.at a (.inRegion ops (i::(rest ++ l2))::k)).finish v=b.at (a.put o.dst v) (.inRegion ops (rest ++ l2)::k):=by
      intro v;rw[Frame.finish_at,ho];rfl
     obtain⟨v,w'',hR,hsteps⟩:=h (b.at a (.inRegion ops (i::(rest ++ l2))::k)) cs
     have henter:step P (lone (b.at a (.inRegion ops (i::(rest ++ l2))::k)) cs w) =
       .next (lone (Frame.ofRow P row args .normal) (b.at a (.inRegion ops (i::(rest ++ l2))::k)::cs) w') :=
      step_lone_go (by rw[hg];simp[stepG.apply,hr,Frame.at])
     obtain⟨a',w₃,hq,harr⟩:=ih _ _ hR b cs hb
     refine⟨a',w₃,hq,.head henter (Steps.trans ?_ harr)⟩
     rw[<- hfin];exact hsteps
    ·exact nomatch h.1
    ·exact h.elim
   ·simp only [hw,if_false,Bool.false_eq_true] at h
    refine abn (fun b cs _=>?_) (ih _ _ h)
    have hs:=step_op_skip (P:=P) (b:=b) (a:=a) (k:=k) (cs:=cs) (w:=w) (ops:=ops) (i:=i) (rest:=rest ++ l2)
     (by simp[ho];simpa using hw)
    simp only[ho,Option.bind_some]at hs
    exact .one hs
theorem abE {ops:Array Oper} {Q:Exit->Act->World->Prop} (l:List Oper) (m:Nat) (h:∀ j,j<l.length->l[j]? = ops[m+j]?):wpOps P ops Q (List.range' m l.length)=wpList P ops Q l:=by
 induction l generalizing m with
 |nil=>funext a w;simp[wpOps,wpList]
 |cons o l ih =>
  have h0:ops[m]? = some o:=by simpa using(h 0 (by simp)).symm
  have ih':=ih (m+1) (fun j hj=>by have:=h (j+1) (by simpa using hj);simpa[Nat.add_assoc,Nat.add_comm 1 j]using this)
  funext a w
  simp only[List.length_cons,List.range'_succ,wpOps,h0,wpList,ih']
end
end Go.Tm
namespace Go.Proofs.YtjjmefieegcddaaDoor
open Go.RowKit Go.Wg Go.Mm Go.Wk
open Go Go.Sr Go.Ph Go.Tm Go.Conc
variable {w:World} {V:View} {f0:FuncId} {R:Ending->World->Prop} {todo k0:List Item} {a:Act}
structure RB (f0:FuncId) (R:Ending->World->Prop) (todo:List Item) (a:Act) (w:World):Prop where
 df:a.defers=[]
 run:∀ (b:Frame) (cs:List Frame),b.fn=f0->b.kind=.normal->∀ τ d,ay OC (w.re τ d) ->
  kU Tryd.prog (G (b.at a todo) cs) (w.re τ d) fun a' w'=>∃ e fr,a'=G fr cs/\R e w'/\fr.fn=f0/\fr.leaving Tryd.prog w' e/\e≠.outgrown/\ay OC w'
theorem RB.re (h:RB f0 R todo a w) (τ:Nat->Question->Nat) (d:Nat):RB f0 R todo a (w.re τ d):=⟨h.df,fun b cs h1 h2 τ' d' hh=>h.run b cs h1 h2 τ' d' hh⟩
theorem ado (tgt:List Item) (hit:todo.all qy=true) (hd:a.defers=[]) (h:∀ τ d,fA Tryd.prog tgt (RB f0 R tgt) todo a (w.re τ d)):RB f0 R todo a w :=
 ⟨hd,fun b cs hbf hbk τ d hh=>vI hbf hbk hit (fun x hx=>by rw[hd]at hx;cases hx) hh (S:=RB f0 R tgt) (fun a w τ d h=>h.re τ d) (fun τ' d'=>h τ' d') fun a' w' hS hh'=>hS.run b cs hbf hbk w'.tape w'.drawn hh'⟩
theorem ac7 {N:FuncId} {args:Array Value} {R':Ending->World->Prop} {ops:Array Oper} {l:List Nat} {i:Nat} {o:Oper} (hd:a.defers=[]) (ho:ops[i]? = some o) (hw:Region.wanted o (yielded ops a.tmps)=true) (hok':qj true o.op=true)
  (hr:∀ w,(execOp a.eval o).run Tryd.prog w=.ok (.enter N args) w) (hpan:∀ ch w,¬ R' (.panicked ch) w) (hc:∀ τ d,ay OC (w.re τ d)->kL Tryd.prog N args (w.re τ d) R')
  (hk:∀ v w',R' (.returned v) w'->RB f0 R (.inRegion ops l::k0) (a.put o.dst v) w'):RB f0 R (.inRegion ops (i::l)::k0) a w :=
 ⟨hd,fun b cs hbf hbk τ d hh=>Oh (hc τ d hh) hh hbk ho hw hok' hr hpan fun v w' hv hh'=>(hk v w' hv).run b cs hbf hbk w'.tape w'.drawn hh'⟩
theorem abY {f0:FuncId} {R:Ending->World->Prop} {fn:Func} {B:Code} {args:Array Value} {m:Nat} (hf:Tryd.prog.funcs[f0]? = some fn) (hb:fn.body=some B) (hm:fn.ntmps-args.size=m) (hh:ay OC w)
  (h:RB f0 R [.code B] {tmps:=args ++ Array.replicate m undef,defers:=[]} w):kL Tryd.prog f0 args w R :=
 jD hf hb fun cs b hbf hbk _=>by
  rw[hm]
  exact h.run b cs hbf hbk w.tape w.drawn hh
theorem adh {fn:Func} {v:Value} (hf:Tryd.prog.funcs[f0]? = some fn) (hd:a.defers=[]) (hr:∀ w,(results fn a.tmps).run Tryd.prog w=.ok v w) (hR:∀ τ d,R (.returned v) (w.re τ d)) (hins:Ins R):RB f0 R (.code .ret::k0) a w :=
 ⟨hd,fun b cs hbf hbk τ d hh=>Vo hbf hbk hd hf hh (hr _) (hR τ d) hins⟩
end Go.Proofs.YtjjmefieegcddaaDoor
namespace Go.Wg
open Go Go.Mm Go.Proofs.YtjjmefieegcddaaDoor
theorem Dl (m v k t:Nat) (ht:t<64):(gZ m v k).testBit t=true↔∃ n,n<k/\m.testBit n=true/\n<=t/\v.testBit (t-n)=true:=by
 induction k with
 |zero=>simp[gZ]
 | succ k ih =>
  rw[qA]
  unfold rQ
  have hs:(v * 2 ^ k % 18446744073709551616).testBit t=(decide (k<=t) && v.testBit (t-k)):=by
   rw[show(18446744073709551616:Nat)=2 ^ 64 by decide,Nat.testBit_mod_two_pow,<- Nat.shiftLeft_eq,Nat.testBit_shiftLeft]
   simp[ht]
  by_cases h:m.testBit k=true
  ·rw [if_pos h,Nat.testBit_or,Bool.or_eq_true,ih,hs,Bool.and_eq_true,decide_eq_true_eq]
   constructor
   ·rintro (⟨n,h1,h2,h3,h4⟩ | ⟨h1,h2⟩)
    ·exact⟨n,by omega,h2,h3,h4⟩
    ·exact⟨k,by omega,h,h1,h2⟩
   ·rintro ⟨n,h1,h2,h3,h4⟩
    by_cases e:n=k
    ·subst e;exact .inr ⟨h3,h4⟩
    ·exact .inl ⟨n,by omega,h2,h3,h4⟩
  ·rw [if_neg h,ih]
   constructor
   ·rintro ⟨n,h1,h2⟩;exact⟨n,by omega,h2⟩
   ·rintro ⟨n,h1,h2,h3⟩
    by_cases e:n=k
    ·subst e;exact absurd h2 h
    ·exact⟨n,by omega,h2,h3⟩
theorem X7 (t:Nat):ANY.testBit t=decide (t<41):=by
 rw[show ANY=2 ^ 41-1 by decide,Nat.testBit_two_pow_sub_one]
theorem Ak (m v t:Nat):(nV m v).testBit t=true↔t<=40/\∃ a b,m.testBit a=true/\v.testBit b=true/\a+b=t:=by
 unfold nV
 rw[Nat.testBit_and,Bool.and_eq_true,X7,decide_eq_true_eq]
 constructor
 ·rintro ⟨h1,h2⟩
  obtain⟨n,_,h3,h4,h5⟩:=(Dl m v 41 t (by omega)).1 h1
  exact⟨by omega,n,t-n,h3,h5,by omega⟩
 ·rintro ⟨h1,a,b,h2,h3,h4⟩
  exact⟨(Dl m v 41 t (by omega)).2 ⟨a,by omega,h2,by omega,by rw[show t-a=b by omega];exact h3⟩,by omega⟩
theorem Lp (U:List Nat):∀ (f:List Nat) (m t:Nat),f.Nodup->((f.foldl (fun m x=>nV m (U.getD x 0)) m).testBit t=true↔(f=[]\/t<=40)/\∃ (a:Nat) (c:Nat->Nat),m.testBit a=true/\(∀ x∈f,(U.getD x 0).testBit (c x)=true)/\t=a+(f.map c).sum)
 | [],m,t,_=>by
  simp only[List.foldl_nil,true_or,true_and,List.map_nil,List.sum_nil,Nat.add_zero]
  exact⟨fun h=>⟨t,fun _=>0,h,(fun x hx=>by cases hx),rfl⟩,fun⟨a,_,h,_,e⟩=>e ▸ h⟩
 | x::f,m,t,hd=>by
  obtain⟨hx,hf⟩:=List.nodup_cons.1 hd
  rw[List.foldl_cons,Lp U f _ t hf]
  constructor
  ·rintro ⟨h0,a,c,h1,h2,h3⟩
   obtain⟨h4,p,q,h5,h6,h7⟩:=(Ak _ _ _).1 h1
   refine⟨.inr ?_,p,fun y=>if y=x then q else c y,h5,fun y hy=>?_,?_⟩
   ·rcases h0 with rfl | h0
    ·simp at h3;omega
    ·exact h0
   ·rcases List.mem_cons.1 hy with rfl | hy
    ·simpa using h6
    ·have:y≠x:=fun e=>hx (e ▸ hy)
     simpa[this]using h2 y hy
   ·have e:f.map (fun y=>if y=x then q else c y)=f.map c:=List.map_congr_left fun y hy=>by
     have:y≠x:=fun e=>hx (e ▸ hy)
     simp[this]
    rw[List.map_cons,List.sum_cons,e,if_pos rfl]
    omega
  ·rintro ⟨h0,a,c,h1,h2,h3⟩
   have ht:t<=40:=h0.resolve_left (by simp)
   rw[List.map_cons,List.sum_cons]at h3
   exact⟨.inr ht,a+c x,c,(Ak _ _ _).2 ⟨by omega,a,c x,h1,h2 x (by simp),rfl⟩,fun y hy=>h2 y (by simp[hy]),by omega⟩
theorem QY (a:Nat):(1:Nat).testBit a=true↔a=0:=by
 cases a with
 |zero=>simp
 |succ a=>simp[Nat.testBit_succ]
theorem MB (U:List Nat) {f:List Nat} (hf:f.Nodup) (hn:f≠[]) (t:Nat):(sums U f).testBit t=true↔t<=40/\∃ c:Nat->Nat,(∀ x∈f,(U.getD x 0).testBit (c x)=true)/\t=(f.map c).sum:=by
 unfold sums
 rw[Lp U f 1 t hf]
 constructor
 ·rintro ⟨h0,a,c,h1,h2,h3⟩
  have:=(QY a).1 h1
  exact⟨h0.resolve_left hn,c,h2,by omega⟩
 ·rintro ⟨h0,c,h2,h3⟩
  exact⟨.inr h0,0,c,(QY 0).2 rfl,h2,by omega⟩
def Fit (k:Wk) (s:SS) (w:Nat->Nat) (i:Nat):Prop :=
 (s.aK i).testBit (w i)=true/\(k.fills i≠[]->∃ d:Nat,(dO (s.aP i).1 (s.aP i).2).testBit d=true/\w i=((k.fills i).map w).sum+d)
def Hu (k:Wk) (s:SS) (w:Nat->Nat):Prop:=∀ i,i<k.n->Fit k s w i
theorem Bg (k:Wk) (i:Nat):(k.fills i).Nodup:=by
 unfold Wk.fills
 exact List.nodup_range.filter _
theorem Fit.congr {k:Wk} {s:SS} {w w':Nat->Nat} {i:Nat} (h:Fit k s w i) (h1:w' i=w i) (h2:∀ x∈k.fills i,w' x=w x):Fit k s w' i:=by
 have e:(k.fills i).map w'=(k.fills i).map w:=List.map_congr_left h2
 exact⟨by rw[h1];exact h.1,fun hn=>by rw[h1,e];exact h.2 hn⟩
theorem gK {k:Wk} {i x:Nat}:x∈k.fills i↔x<k.n/\(k.v x).from_=(i:Int):=by
 unfold Wk.fills
 rw[List.mem_filter,List.mem_range,beq_iff_eq]
theorem Rz {k:Wk} (hok:k.Ok) {i x:Nat} (hx:x∈k.fills i) (j:Nat):j<k.n->inB k x j=true->inB k i j=true:=by
 induction j using Nat.strongRecOn with
 | ind j ih =>
  intro hj h
  have hxn:=gK.1 hx
  rw[kJ hok x hj,Bool.or_eq_true,Bool.and_eq_true,beq_iff_eq,decide_eq_true_eq]at h
  rw[kJ hok i hj,Bool.or_eq_true,Bool.and_eq_true,beq_iff_eq,decide_eq_true_eq]
  have h3:=(hok.ves j hj).2.1
  rcases h with rfl|⟨h1,h2⟩
  ·refine .inr ⟨by omega,?_⟩
   rw[hxn.2,Int.toNat_natCast]
   exact gq k i
  ·exact .inr ⟨h1,ih _ (by omega) (by omega) h2⟩
theorem Ie {k:Wk} (hok:k.Ok) (i j:Nat):j<k.n->inB k i j=true->j=i\/∃ x∈k.fills i,inB k x j=true:=by
 induction j using Nat.strongRecOn with
 | ind j ih =>
  intro hj h
  rw[kJ hok i hj,Bool.or_eq_true,Bool.and_eq_true,beq_iff_eq,decide_eq_true_eq]at h
  have h3:=(hok.ves j hj).2.1
  rcases h with h|⟨h1,h2⟩
  ·exact .inl h
  ·refine .inr ?_
   rcases ih _ (by omega) (by omega) h2 with h4|⟨x,hx,h4⟩
   ·exact⟨j,gK.2 ⟨hj,by omega⟩,gq k j⟩
   ·refine ⟨x,hx,?_⟩
    rw[kJ hok x hj,Bool.or_eq_true,Bool.and_eq_true,decide_eq_true_eq]
    exact .inr ⟨h1,h4⟩
theorem Qz {k:Wk} (hok:k.Ok) {f:Int} {x y:Nat} (hx:x<k.n) (hy:y<k.n) (hfx:(k.v x).from_=f) (hfy:(k.v y).from_=f) (j:Nat):j<k.n->inB k x j=true->inB k y j=true->x=y:=by
 induction j using Nat.strongRecOn with
 | ind j ih =>
  intro hj h1 h2
  have h3:=(hok.ves j hj).2.1
  have g1:=h1
  have g2:=h2
  rw[kJ hok x hj,Bool.or_eq_true,Bool.and_eq_true,beq_iff_eq,decide_eq_true_eq]at g1
  rw[kJ hok y hj,Bool.or_eq_true,Bool.and_eq_true,beq_iff_eq,decide_eq_true_eq]at g2
  rcases g1 with g1|⟨g1,g3⟩
  ·rcases g2 with g2 | ⟨g2,g4⟩
   ·omega
   ·subst g1
    have:=DN hok y _ (by omega) g4
    have:=(hok.ves y hy).2.1
    omega
  ·rcases g2 with g2 | ⟨g2,g4⟩
   ·subst g2
    have:=DN hok x _ (by omega) g3
    have:=(hok.ves x hx).2.1
    omega
   ·exact ih _ (by omega) (by omega) g3 g4
theorem Hf {k:Wk} (hok:k.Ok) {i j x:Nat} (hj:inB k i j=true) (hx:x∈k.fills j):inB k i x=true:=by
 obtain⟨h1,h2⟩:=gK.1 hx
 rw[kJ hok i h1,Bool.or_eq_true,Bool.and_eq_true,decide_eq_true_eq]
 refine .inr ⟨by omega,?_⟩
 rw[h2,Int.toNat_natCast]
 exact hj
noncomputable def glue (k:Wk) (f:List Nat) (W:Nat->Nat->Nat) (w:Nat->Nat) (j:Nat):Nat:=open Classical in if h:∃ x,x∈f/\inB k x j=true then W h.choose j else w j
theorem Qh {k:Wk} {f:List Nat} {W:Nat->Nat->Nat} {w:Nat->Nat} {x j:Nat} (hx:x∈f) (hb:inB k x j=true) (hone:∀ y∈f,inB k y j=true->y=x):glue k f W w j=W x j:=by
 unfold glue
 have h:∃ x,x∈f/\inB k x j=true:=⟨x,hx,hb⟩
 rw[dif_pos h,hone _ h.choose_spec.1 h.choose_spec.2]
theorem Ve {k:Wk} {f:List Nat} {W:Nat->Nat->Nat} {w:Nat->Nat} {j:Nat} (h:∀ x∈f,inB k x j=false):glue k f W w j=w j:=by
 unfold glue
 rw[dif_neg]
 rintro ⟨x,h1,h2⟩
 rw[h x h1]at h2
 cases h2
theorem GU {s:SS} (hs:s.WF) {i m:Nat} (h:(s.aK i).testBit m=true):m<=40:=by
 have h1:=hs.fZ i
 rcases Nat.lt_or_ge m 41 with h2|h2
 ·omega
 ·have:(s.aK i).testBit m=false:=Nat.testBit_lt_two_pow (Nat.lt_of_lt_of_le h1 (by
   have:(2:Nat) ^ 41<=2 ^ m:=Nat.pow_le_pow_right (by omega) h2
   exact this))
  rw[this]at h
  cases h
theorem Vy {k:Wk} (hok:k.Ok) {s:SS} (hs:s.WF) (i:Nat):i<k.n->∀ m,((up k s).getD i 0).testBit m=true↔∃ w:Nat->Nat,w i=m/\∀ j,j<k.n->inB k i j=true->Fit k s w j:=by
 have key:∀ d i,k.n - i<=d->i < k.n->∀ m,((up k s).getD i 0).testBit m=true↔∃ w:Nat->Nat,w i=m/\∀ j,j < k.n->inB k i j=true->Fit k s w j:=fun d=>by
  induction d with
  |zero=>exact fun i h1 h2=>by omega
  | succ d ih =>
   intro i h1 hi m
   have hfg:=fun x hx=>rV hok (i:=i) (x:=x) hx
   have ihx:∀ x∈k.fills i,∀ m,((up k s).getD x 0).testBit m=true↔∃ w:Nat->Nat,w x=m/\∀ j,j<k.n->inB k x j=true->Fit k s w j:=fun x hx=>by
    have:=hfg x hx
    exact ih x (by omega) this.2
   rw[aaT hok s hi]
   by_cases hf:k.fills i=[]
   ·rw [if_pos hf]
    constructor
    ·intro h
     refine⟨fun _=>m,rfl,fun j hj hb=>?_⟩
     rcases Ie hok i j hj hb with rfl|⟨x,hx,_⟩
     ·exact⟨h,fun hn=>absurd hf hn⟩
     ·rw[hf]at hx;cases hx
    ·rintro ⟨w,rfl,h⟩
     exact(h i hi (gq k i)).1
   ·rw [if_neg hf,Nat.testBit_and,Bool.and_eq_true,Ak]
    constructor
    ·rintro ⟨hl,h40,a,b,ha,hb,hab⟩
     obtain⟨_,c,hc,hsum⟩:=(MB _ (Bg k i) hf a).1 ha
     have hW:∀ x,∃ w:Nat->Nat,x∈k.fills i->w x=c x/\∀ j,j<k.n->inB k x j=true->Fit k s w j:=fun x=>by
      by_cases hx:x∈k.fills i
      ·obtain ⟨w,h2,h3⟩:=(ihx x hx _).1 (hc x hx)
       exact⟨w,fun _=>⟨h2,h3⟩⟩
      ·exact⟨fun _=>0,fun h=>absurd h hx⟩
     have hone:∀ {x j},x∈k.fills i->j<k.n->inB k x j=true->∀ y∈k.fills i,inB k y j=true->y=x:=fun {x j} hx hj hb y hy hb' =>
      Qz hok (gK.1 hy).1 (gK.1 hx).1 (gK.1 hy).2 (gK.1 hx).2 j hj hb' hb
     let W:Nat->Nat->Nat:=fun x=>Classical.choose (hW x)
     have hWs:∀ x∈k.fills i,W x x=c x/\∀ j,j<k.n->inB k x j=true->Fit k s (W x) j:=fun x hx=>Classical.choose_spec (hW x) hx
     have gin:∀ {x j},x∈k.fills i->j<k.n->inB k x j=true->glue k (k.fills i) W (fun _=>m) j=W x j:=fun hx hj hb=>Qh hx hb (hone hx hj hb)
     have gi:glue k (k.fills i) W (fun _=>m) i=m:=Ve fun x hx=>by
      cases hh:inB k x i
      ·rfl
      ·have:=DN hok x i hi hh
       have:=hfg x hx
       omega
     refine⟨glue k (k.fills i) W (fun _=>m),gi,fun j hj hb=>?_⟩
     rcases Ie hok i j hj hb with rfl|⟨x,hx,hbx⟩
     ·refine ⟨by rw [gi];exact hl,fun _=>⟨b,by assumption,?_⟩⟩
      have e:(k.fills j).map (glue k (k.fills j) W fun _=>m)=(k.fills j).map c:=List.map_congr_left fun x hx=>by
       rw[gin hx (hfg x hx).2 (gq k x),(hWs x hx).1]
      rw[gi,e,<- hsum]
      exact hab.symm
     ·refine ((hWs x hx).2 j hj hbx).congr (gin hx hj hbx) fun y hy=>?_
      exact gin hx (gK.1 hy).1 (Hf hok hbx hy)
    ·rintro ⟨w,rfl,h⟩
     obtain⟨hl,hd⟩:=h i hi (gq k i)
     obtain⟨b,hb,hab⟩:=hd hf
     have h40:=GU hs hl
     refine⟨hl,h40,((k.fills i).map w).sum,b,(MB _ (Bg k i) hf _).2 ⟨by omega,w,fun x hx=>?_,rfl⟩,hb,hab.symm⟩
     exact(ihx x hx _).2 ⟨w,rfl,fun j hj hbx=>h j hj (Rz hok hx j hj hbx)⟩
 exact key _ i (Nat.le_refl _)
theorem Yf {k:Wk} (hok:k.Ok) (i:Nat):i<k.n->∃ r,r<k.n/\(k.v r).from_=-1/\inB k r i=true:=by
 induction i using Nat.strongRecOn with
 | ind i ih =>
  intro hi
  obtain⟨o1,o2,_⟩:=hok.ves i hi
  by_cases h:(k.v i).from_=-1
  ·exact⟨i,hi,h,gq k i⟩
  ·obtain ⟨r,h1,h2,h3⟩:=ih (k.v i).from_.toNat (by omega) (by omega)
   refine⟨r,h1,h2,?_⟩
   rw[kJ hok r hi,Bool.or_eq_true,Bool.and_eq_true,decide_eq_true_eq]
   exact .inr ⟨by omega,h3⟩
theorem QS {k:Wk} (hok:k.Ok) {s:SS} (hs:s.WF):can k s=true↔∃ w,Hu k s w:=by
 rw[XA]
 constructor
 ·intro h
  let R:=(List.range k.n).filter fun r=>(k.v r).from_ == -1
  have hR:∀ {r},r∈R↔r<k.n/\(k.v r).from_=-1:=by simp[R]
  have hW:∀ x,∃ w:Nat->Nat,x<k.n->∀ j,j<k.n->inB k x j=true->Fit k s w j:=fun x=>by
   by_cases hx:x<k.n
   ·obtain ⟨m,hm⟩:=Nat.exists_testBit_of_ne_zero (h x hx)
    obtain⟨w,_,h2⟩:=(Vy hok hs x hx m).1 hm
    exact⟨w,fun _=>h2⟩
   ·exact⟨fun _=>0,fun h=>absurd h hx⟩
  let W:Nat->Nat->Nat:=fun x=>Classical.choose (hW x)
  have hWs:∀ x,x<k.n->∀ j,j<k.n->inB k x j=true->Fit k s (W x) j:=fun x hx=>Classical.choose_spec (hW x) hx
  refine⟨glue k R W fun _=>0,fun j hj=>?_⟩
  obtain⟨r,h1,h2,h3⟩:=Yf hok j hj
  have gin:∀ {j},j<k.n->inB k r j=true->glue k R W (fun _=>0) j=W r j:=fun hj hb=>Qh (hR.2 ⟨h1,h2⟩) hb fun y hy hb'=>Qz hok (hR.1 hy).1 h1 (hR.1 hy).2 h2 _ hj hb' hb
  exact(hWs r h1 j hj h3).congr (gin hj h3) fun y hy=>gin (gK.1 hy).1 (Hf hok h3 hy)
 ·rintro ⟨w,h⟩ i hi h0
  have:=(Vy hok hs i hi (w i)).2 ⟨w,rfl,fun j hj _=>h j hj⟩
  rw[h0,Nat.zero_testBit]at this
  cases this
theorem zi (n x:Nat) (hn:n<=40):(dO (n:Int) (n:Int)).testBit x=true↔x=n:=by
 rw[wI]
 simp only[Bool.and_eq_true,decide_eq_true_eq]
 omega
theorem AV {k:Wk} {s:SS} (hs:s.WF) (h6:k.n<=6) {i n:Nat} (hi:i<k.n) (hn:n<=40) (w:Nat->Nat):Hu k (s.weighed i n) w↔Hu k s w/\w i=n:=by
 have hl:=hs.lim
 have e:∀ j,(s.weighed i n).aK j=if i=j then s.aK i &&& dO n n else s.aK j:=fun j=>fC _ _ _ _ _ (by omega)
 constructor
 ·intro h
  refine⟨fun j hj=>?_,?_⟩
  ·obtain ⟨h1,h2⟩:=h j hj
   refine⟨?_,h2⟩
   rw[e]at h1
   by_cases hij:i=j
   ·subst hij
    rw[if_pos rfl,Nat.testBit_and,Bool.and_eq_true]at h1
    exact h1.1
   ·rw [if_neg hij] at h1
    exact h1
  ·obtain ⟨h1,_⟩:=h i hi
   rw[e,if_pos rfl,Nat.testBit_and,Bool.and_eq_true]at h1
   exact(zi n _ hn).1 h1.2
 ·rintro ⟨h,hw⟩ j hj
  obtain⟨h1,h2⟩:=h j hj
  refine⟨?_,h2⟩
  rw[e]
  by_cases hij:i=j
  ·subst hij
   rw[if_pos rfl,Nat.testBit_and,Bool.and_eq_true]
   exact⟨h1,(zi n _ hn).2 hw⟩
  ·rw [if_neg hij]
   exact h1
theorem vZ {k:Wk} (hok:k.Ok) {s:SS} (hs:s.WF) {i n:Nat} (hi:i<k.n) (hn:n<=40):can k (s.weighed i n)=true↔∃ w,Hu k s w/\w i=n:=by
 rw[QS hok (hs.weighed i n)]
 constructor
 ·rintro ⟨w,h⟩
  exact⟨w,(AV hs hok.le hi hn w).1 h⟩
 ·rintro ⟨w,h⟩
  exact⟨w,(AV hs hok.le hi hn w).2 h⟩
def Wk.plus (k:Wk) (r:je):Wk:=⟨k.ves,k.rdg ++ [r]⟩
theorem yT {k:Wk} (hok:k.Ok) (h5:k.rdg.length<=5) {r:je} (hr:r.Ok k.n):(k.plus r).Ok:=by
 refine⟨hok.pos,hok.le,hok.ves,?_,fun i hi=>?_⟩
 ·show (k.rdg ++ [r]).length<=6
  simp;omega
 ·show ((k.rdg ++ [r]).getD i default).Ok k.n
  have hi':i<(k.rdg ++ [r]).length:=hi
  rw[List.length_append,List.length_singleton]at hi'
  rw[List.getD_eq_getElem?_getD]
  by_cases h:i<k.rdg.length
  ·rw [List.getElem?_append_left h,<- List.getD_eq_getElem?_getD]
   exact hok.rdg i h
  ·obtain rfl:i=k.rdg.length:=by omega
   simpa using hr
theorem JY {k:Wk} {s:SS} {v m:Nat} (M:Nat) (hm:m<M) (h:can k (s.weighed v (m:Nat))=true):(bZ k s v M).1<=m/\(m:Int)<=(bZ k s v M).2:=by
 induction M with
 |zero=>omega
 | succ M ih =>
  rw[bZ]
  by_cases e:m=M
  ·subst e
   rw[if_pos h]
   simp only
   omega
  ·have:=ih (by omega)
   split
   ·simp only;omega
   ·exact this
theorem NV {k:Wk} {s:SS} {v m:Nat} (hm:m<=40) (h:can k (s.weighed v (m:Nat))=true):(aO k s v).1<=m/\(m:Int)<=(aO k s v).2:=JY 41 (by omega) h
def Wk.cut (k:Wk) (v M:Nat):Wk:=(k.branch v).plus ⟨0,0,(M:Int),0⟩
structure Holds (g:Gr) (P:Nat->Int->Prop):Prop where
 wf:g.WF
 has:∀ n,g.has.testBit n=true↔∃ y,P n y
 lo:∀ n,g.has.testBit n=true->P n (g.get n).1
 hi:∀ n,g.has.testBit n=true->P n (g.get n).2
 all:∀ n y,P n y->(g.get n).1<=y/\y<=(g.get n).2
theorem acM {x n:Nat} (h1:x<2199023255552) (h:x.testBit n=true):n<=40:=by
 rcases Nat.lt_or_ge n 41 with h2|h2
 ·omega
 ·have:x.testBit n=false:=Nat.testBit_lt_two_pow (Nat.lt_of_lt_of_le h1 (by
   rw[show(2199023255552:Nat)=2 ^ 41 by decide]
   exact Nat.pow_le_pow_right (by decide) h2))
  rw[this]at h;cases h
theorem Holds.small {g:Gr} {P:Nat->Int->Prop} (h:Holds g P) {n:Nat} {y:Int} (hp:P n y):n<=40:=acM h.wf.small ((h.has n).2 ⟨y,hp⟩)
theorem Holds.congr {g:Gr} {P Q:Nat->Int->Prop} (h:Holds g P) (e:∀ n y,P n y↔Q n y):Holds g Q:=by
 have:P=Q:=funext fun n=>funext fun y=>propext (e n y)
 rwa [<- this]
theorem aaM:Holds Gr.empty fun _ _=>False :=
 ⟨Gr.uQ,fun n=>⟨fun h=>by simp[Gr.empty]at h,fun⟨_,h⟩=>h.elim⟩,fun n h=>by simp[Gr.empty]at h,fun n h=>by simp[Gr.empty]at h,fun n y h=>h.elim⟩
theorem abS (g:Gr) (n:Nat) (v:Int × Int) (m:Nat):(g.add n v).has.testBit m=(g.has.testBit m || decide (n=m)):=by
 show(g.has ||| 2 ^ n).testBit m=_
 rw[Nat.testBit_or,Nat.testBit_two_pow]
theorem add_get (g:Gr) (hg:g.WF) {n:Nat} (hn:n<41) (v:Int × Int) (m:Nat):(g.add n v).get m=if n=m then(if g.has.testBit n then sO (g.get n) v else v) else g.get m:=by
 have hl:=hg.len
 show(g.at_.set n _).getD m (0,0)=_
 rw[fC _ _ _ _ _ (by omega)]
 rfl
theorem Holds.add {g:Gr} {P:Nat->Int->Prop} (h:Holds g P) {n:Nat} (hn:n<41) {Q:Int->Prop} {v:Int × Int} (h1:Q v.1) (h2:Q v.2) (ha:∀ y,Q y->v.1<=y/\y<=v.2):Holds (g.add n v) fun m y=>P m y\/(m=n/\Q y):=by
 have hv:=ha _ h1
 refine⟨h.wf.add hn v,fun m=>?_,fun m hm=>?_,fun m hm=>?_,fun m y hy=>?_⟩
 ·rw [abS,Bool.or_eq_true,decide_eq_true_eq,h.has]
  constructor
  ·rintro (⟨y,hy⟩ | rfl)
   ·exact⟨y,.inl hy⟩
   ·exact⟨_,.inr ⟨rfl,h1⟩⟩
  ·rintro ⟨y,hy | ⟨rfl,_⟩⟩
   ·exact .inl ⟨y,hy⟩
   ·exact .inr rfl
 ·rw [abS,Bool.or_eq_true,decide_eq_true_eq] at hm
  rw[add_get g h.wf hn]
  by_cases e:n=m
  ·subst e
   rw[if_pos rfl]
   split
   ·rename_i hb
    show P n (min (g.get n).1 v.1)\/(n=n/\Q (min (g.get n).1 v.1))
    rcases Int.le_total (g.get n).1 v.1 with h3|h3
    ·rw[Int.min_eq_left h3];exact .inl (h.lo n hb)
    ·rw[Int.min_eq_right h3];exact .inr ⟨rfl,h1⟩
   ·exact .inr ⟨rfl,h1⟩
  ·rw [if_neg e]
   exact .inl (h.lo m (hm.resolve_right e))
 ·rw [abS,Bool.or_eq_true,decide_eq_true_eq] at hm
  rw[add_get g h.wf hn]
  by_cases e:n=m
  ·subst e
   rw[if_pos rfl]
   split
   ·rename_i hb
    show P n (max (g.get n).2 v.2)\/(n=n/\Q (max (g.get n).2 v.2))
    rcases Int.le_total (g.get n).2 v.2 with h3|h3
    ·rw[Int.max_eq_right h3];exact .inr ⟨rfl,h2⟩
    ·rw[Int.max_eq_left h3];exact .inl (h.hi n hb)
   ·exact .inr ⟨rfl,h2⟩
  ·rw [if_neg e]
   exact .inl (h.hi m (hm.resolve_right e))
 ·rw [add_get g h.wf hn]
  by_cases e:n=m
  ·subst e
   rw[if_pos rfl]
   split
   ·show min _ _<=y/\y<=max _ _
    rcases hy with hy|⟨_,hy⟩
    ·have:=h.all n y hy;omega
    ·have:=ha y hy;omega
   ·rename_i hb
    rcases hy with hy|⟨_,hy⟩
    ·exact absurd ((h.has n).2 ⟨y,hy⟩) hb
    ·exact ha y hy
  ·rw [if_neg e]
   rcases hy with hy|⟨rfl,_⟩
   ·exact h.all m y hy
   ·exact absurd rfl e
theorem acn (s:SS) (st:Bool) (i:Nat) (m:Nat) (hm:m<=41):Holds (lY s st i m) fun n y=>n<m/\(s.aK i).testBit n=true/\y=if st then(n:Int) else 0:=by
 induction m with
 |zero=>exact aaM.congr fun n y=>⟨fun h=>h.elim,fun h=>absurd h.1 (by omega)⟩
 | succ m ih =>
  rw[lY]
  have h:=ih (by omega)
  split
  ·rename_i hb
   refine(h.add (n:=m) (by omega) (Q:=fun y=>y=if st then(m:Int) else 0) (by cases st<;>rfl) (by cases st<;>rfl) (by rintro y rfl;cases st<;>simp)).congr fun n y=>?_
   constructor
   ·rintro (⟨h1,h2⟩ | ⟨rfl,h2⟩)
    ·exact⟨by omega,h2⟩
    ·exact⟨by omega,hb,h2⟩
   ·rintro ⟨h1,h2,h3⟩
    by_cases e:n=m
    ·subst e;exact .inr ⟨rfl,h3⟩
    ·exact .inl ⟨by omega,h2,h3⟩
  ·rename_i hb
   refine h.congr fun n y=>⟨fun⟨h1,h2⟩=>⟨by omega,h2⟩,fun⟨h1,h2,h3⟩=>⟨?_,h2,h3⟩⟩
   by_cases e:n=m
   ·subst e;exact absurd h2 hb
   ·omega
theorem acQ {a b g:Gr} {P Q R:Nat->Int->Prop} (ha:Holds a P) (hb:Holds b Q) (hg:Holds g R) (x:Nat) (m:Nat) (hm:x+m<=41) :
  Holds (rM a b x g m) fun n y=>R n y\/∃ q y1 y2,q<m/\n=x+q/\P x y1/\Q q y2/\y=y1+y2:=by
 induction m with
 |zero=>exact hg.congr fun n y=>⟨.inl,fun h=>h.elim id fun⟨q,_,_,h,_⟩=>absurd h (by omega)⟩
 | succ m ih =>
  rw[rM]
  have h:=ih (by omega)
  split
  ·rename_i hc
   rw[Bool.and_eq_true]at hc
   refine(h.add (n:=x+m) (by omega) (Q:=fun y=>∃ y1 y2,P x y1/\Q m y2/\y=y1+y2) ⟨_,_,ha.lo x hc.1,hb.lo m hc.2,rfl⟩ ⟨_,_,ha.hi x hc.1,hb.hi m hc.2,rfl⟩ ?_).congr fun n y=>?_
   ·rintro y ⟨y1,y2,h1,h2,rfl⟩
    have:=ha.all _ _ h1
    have:=hb.all _ _ h2
    show(a.get x).1+(b.get m).1<=_/\_<=(a.get x).2+(b.get m).2
    omega
   ·constructor
    ·rintro ((h1 | ⟨q,y1,y2,h1,h2⟩) | ⟨rfl,y1,y2,h2⟩)
     ·exact .inl h1
     ·exact .inr ⟨q,y1,y2,by omega,h2⟩
     ·exact .inr ⟨m,y1,y2,by omega,rfl,h2⟩
    ·rintro (h1 | ⟨q,y1,y2,h1,h2,h3⟩)
     ·exact .inl (.inl h1)
     ·by_cases e:q=m
      ·subst e;exact .inr ⟨h2,y1,y2,h3⟩
      ·exact .inl (.inr ⟨q,y1,y2,by omega,h2,h3⟩)
  ·rename_i hc
   refine h.congr fun n y=>⟨fun h1=>h1.imp_right fun⟨q,y1,y2,h1,h2⟩=>⟨q,y1,y2,by omega,h2⟩,fun h1=>h1.imp_right fun⟨q,y1,y2,h1,h2,h3,h4,h5⟩=>⟨q,y1,y2,?_,h2,h3,h4,h5⟩⟩
   by_cases e:q=m
   ·subst e
    exact absurd (by rw[(ha.has x).2 ⟨y1,h3⟩,(hb.has q).2 ⟨y2,h4⟩];rfl) hc
   ·omega
theorem ab2 {a b:Gr} {P Q:Nat->Int->Prop} (ha:Holds a P) (hb:Holds b Q) (x:Nat) (hx:x<=41) :
  Holds (ku a b x) fun n y=>∃ p q y1 y2,p<x/\n=p+q/\n<=40/\P p y1/\Q q y2/\y=y1+y2:=by
 induction x with
 |zero=>exact aaM.congr fun n y=>⟨fun h=>h.elim,fun⟨_,_,_,_,h,_⟩=>absurd h (by omega)⟩
 | succ x ih =>
  rw[ku]
  refine(acQ ha hb (ih (by omega)) x (41-x) (by omega)).congr fun n y=>?_
  constructor
  ·rintro (⟨p,q,y1,y2,h1,h2⟩ | ⟨q,y1,y2,h1,h2,h3⟩)
   ·exact⟨p,q,y1,y2,by omega,h2⟩
   ·exact⟨x,q,y1,y2,by omega,h2,by omega,h3⟩
  ·rintro ⟨p,q,y1,y2,h1,h2,h3,h4⟩
   by_cases e:p=x
   ·subst e;exact .inr ⟨q,y1,y2,by omega,h2,h4⟩
   ·exact .inl ⟨p,q,y1,y2,by omega,h2,h3,h4⟩
theorem acu {a b:Gr} {P Q:Nat->Int->Prop} (ha:Holds a P) (hb:Holds b Q):Holds (pR a b) fun n y=>∃ p q y1 y2,n=p+q/\n<=40/\P p y1/\Q q y2/\y=y1+y2 :=
 (ab2 ha hb 41 (by omega)).congr fun n y=>⟨fun⟨p,q,y1,y2,_,h⟩=>⟨p,q,y1,y2,h⟩,fun⟨p,q,y1,y2,h1,h2,h3⟩=>⟨p,q,y1,y2,by omega,h1,h2,h3⟩⟩
theorem abG {F:Nat->Gr} {Px:Nat->Nat->Int->Prop}:∀ (l:List Nat),l.Nodup->(∀ x∈l,Holds (F x) (Px x))->∀ {g:Gr} {R:Nat->Int->Prop},Holds g R ->
  Holds (l.foldl (fun sm x=>pR sm (F x)) g) fun n y=>n<=40/\∃ n0 y0,∃ (c:Nat->Nat) (z:Nat->Int),R n0 y0/\(∀ x∈l,Px x (c x) (z x))/\n=n0+(l.map c).sum/\y=y0+(l.map z).sum
 | [],_,_,g,R,hg=>hg.congr fun n y=>by
  constructor
  ·exact fun h=>⟨hg.small h,n,y,fun _=>0,fun _=>0,h,(fun x hx=>nomatch hx),by simp,by simp⟩
  ·rintro ⟨_,n0,y0,c,z,h,_,h2,h3⟩
   simp at h2 h3
   rw[h2,h3];exact h
 | x::l,hd,hF,g,R,hg=>by
  obtain⟨hx,hl⟩:=List.nodup_cons.1 hd
  rw[List.foldl_cons]
  refine(abG l hl (fun y hy=>hF y (List.mem_cons_of_mem _ hy)) (acu hg (hF x (List.mem_cons_self ..)))).congr fun n y=>?_
  constructor
  ·rintro ⟨h40,n0,y0,c,z,⟨p,q,y1,y2,h1,h2,h3,h4,h5⟩,h6,h7,h8⟩
   have e:∀ {β:Type} [Inhabited β] (c:Nat->β) (q:β),l.map (fun y=>if y=x then q else c y)=l.map c:=fun c q=>List.map_congr_left fun y hy=>by
    have:y≠x:=fun e=>hx (e ▸ hy)
    simp[this]
   refine⟨h40,p,y1,fun y=>if y=x then q else c y,fun y=>if y=x then y2 else z y,h3,fun y hy=>?_,?_,?_⟩
   ·rcases List.mem_cons.1 hy with rfl | hy
    ·simpa using h4
    ·have:y≠x:=fun e=>hx (e ▸ hy)
     simpa[this]using h6 y hy
   ·rw[List.map_cons,List.sum_cons,e,if_pos rfl];omega
   ·rw[List.map_cons,List.sum_cons,e,if_pos rfl];omega
  ·rintro ⟨h40,n0,y0,c,z,h1,h2,h3,h4⟩
   rw[List.map_cons,List.sum_cons]at h3 h4
   exact⟨h40,n0+c x,y0+z x,c,z,⟨n0,c x,y0,z x,rfl,by omega,h1,h2 x (List.mem_cons_self ..),rfl⟩,fun y hy=>h2 y (List.mem_cons_of_mem _ hy),by omega,by omega⟩
theorem abJ {sums g:Gr} {P R:Nat->Int->Prop} (hs:Holds sums P) (hg:Holds g R) (lim:Nat) (st:Bool) {lo:Int} (hlo:0<=lo) (x:Nat) (m:Nat) (hm:∀ j:Nat,j<m->x+(lo+j).toNat<41) :
  Holds (iO sums lim st lo x g m) fun n y=>R n y\/∃ (j:Nat) (y1:Int),j<m/\n=x+(lo+j).toNat/\lim.testBit n=true/\P x y1/\y=if st then y1 else y1+(lo+j):=by
 induction m with
 |zero=>exact hg.congr fun n y=>⟨.inl,fun h=>h.elim id fun⟨q,_,h,_⟩=>absurd h (by omega)⟩
 | succ m ih =>
  rw[iO]
  have h:=ih fun j hj=>hm j (by omega)
  split
  ·rename_i hc
   rw[Bool.and_eq_true]at hc
   refine(h.add (n:=x+(lo+m).toNat) (hm m (by omega)) (Q:=fun y=>∃ y1,P x y1/\y=if st then y1 else y1+(lo+m)) ⟨(sums.get x).1,hs.lo x hc.1,by cases st<;>rfl⟩ ⟨(sums.get x).2,hs.hi x hc.1,by cases st<;>rfl⟩ ?_).congr fun n y=>?_
   ·rintro y ⟨y1,h1,rfl⟩
    have:=hs.all _ _ h1
    cases st
    ·show (sums.get x).1+(lo+m)<=y1+(lo+m)/\y1+(lo+m)<=(sums.get x).2+(lo+m)
     omega
    ·exact this
   ·constructor
    ·rintro ((h1 | ⟨q,y1,h1,h2⟩) | ⟨rfl,y1,h2,h3⟩)
     ·exact .inl h1
     ·exact .inr ⟨q,y1,by omega,h2⟩
     ·exact .inr ⟨m,y1,by omega,rfl,hc.2,h2,h3⟩
    ·rintro (h1 | ⟨q,y1,h1,h2,h3,h4⟩)
     ·exact .inl (.inl h1)
     ·by_cases e:q=m
      ·subst e;exact .inr ⟨h2,y1,h4⟩
      ·exact .inl (.inr ⟨q,y1,by omega,h2,h3,h4⟩)
  ·rename_i hc
   refine h.congr fun n y=>⟨fun h1=>h1.imp_right fun⟨q,y1,h1,h2⟩=>⟨q,y1,by omega,h2⟩,fun h1=>h1.imp_right fun⟨q,y1,h1,h2,h3,h4,h5⟩=>⟨q,y1,?_,h2,h3,h4,h5⟩⟩
   by_cases e:q=m
   ·subst e
    rw[h2]at h3
    exact absurd (by rw[(hs.has x).2 ⟨y1,h4⟩,h3];rfl) hc
   ·omega
theorem abW {sums:Gr} {P:Nat->Int->Prop} (hs:Holds sums P) (lim:Nat) (st:Bool) {lo hi:Int} (hlo:0<=lo) (X:Nat) (hX:X<=41) :
  Holds (jY sums lim st lo hi X) fun n y=>∃ (x d:Nat) (y1:Int),x<X/\lo<=d/\(d:Int)<=hi/\n=x+d/\n<=40/\lim.testBit n=true/\P x y1/\y=if st then y1 else y1+d:=by
 induction X with
 |zero=>exact aaM.congr fun n y=>⟨fun h=>h.elim,fun⟨_,_,_,h,_⟩=>absurd h (by omega)⟩
 | succ x ih =>
  rw[jY]
  have hN:∀ j:Nat,j<qY lo hi x->lo+j<=hi/\x+(lo+j).toNat<41:=fun j hj=>by
   unfold qY at hj
   omega
  refine(abJ hs (ih (by omega)) lim st hlo x (qY lo hi x) fun j hj=>(hN j hj).2).congr fun n y=>?_
  constructor
  ·rintro (⟨p,d,y1,h1,h2⟩ | ⟨j,y1,h1,h2,h3,h4,h5⟩)
   ·exact⟨p,d,y1,by omega,h2⟩
   ·have:=hN j h1
    refine⟨x,(lo+j).toNat,y1,by omega,by omega,by omega,h2,by omega,h3,h4,?_⟩
    rw[h5,show((lo+j).toNat:Int)=lo+j by omega]
  ·rintro ⟨p,d,y1,h1,h2,h3,h4,h5,h6,h7,h8⟩
   by_cases e:p=x
   ·subst e
    refine .inr ⟨(d-lo).toNat,y1,by unfold qY;omega,by omega,h6,h7,?_⟩
    rw[h8,show lo+((d-lo).toNat:Int)=d by omega]
   ·exact .inl ⟨p,d,y1,by omega,h2,h3,h4,h5,h6,h7,h8⟩
theorem aaU {α:Type} (p:α->Bool) (o:α->Int) (l:List α):((l.filter p).map o).sum=(l.map fun j=>if p j then o j else 0).sum:=by
 induction l with
 |nil=>rfl
 |cons a l ih =>
  by_cases h:p a=true
  ·rw[List.filter_cons_of_pos h];simp[ih,h]
  ·rw[List.filter_cons_of_neg h];simp[ih,h]
theorem sum_add {α:Type} (f g:α->Int) (l:List α):(l.map fun j=>f j+g j).sum=(l.map f).sum+(l.map g).sum:=by
 induction l with
 |nil=>rfl
 |cons a l ih=>simp only[List.map_cons,List.sum_cons,ih];omega
theorem abd {α:Type} {f:α->Int} {l:List α} (h:∀ x∈l,f x=0):(l.map f).sum=0:=by
 induction l with
 |nil=>rfl
 |cons a l ih=>rw[List.map_cons,List.sum_cons,h a (by simp),ih fun x hx=>h x (by simp[hx])];rfl
theorem abH {α:Type} {f:α->Int} {l:List α} {x:α} (hl:l.Nodup) (hx:x∈l) (h:∀ y∈l,y≠x->f y=0):(l.map f).sum=f x:=by
 induction l with
 |nil=>cases hx
 |cons a l ih =>
  obtain⟨ha,hl⟩:=List.nodup_cons.1 hl
  rw[List.map_cons,List.sum_cons]
  rcases List.mem_cons.1 hx with rfl|hx
  ·rw[abd fun y hy=>h y (by simp[hy]) fun e=>ha (e ▸ hy)];omega
  ·rw[h a (by simp) fun e=>ha (e ▸ hx),ih hl hx fun y hy=>h y (by simp[hy])];omega
theorem ab8 {α β:Type} (g:α->β->Int) (f:List α) (l:List β):(f.map fun x=>(l.map fun j=>g x j).sum).sum=(l.map fun j=>(f.map fun x=>g x j).sum).sum:=by
 induction f with
 |nil=>simp only[List.map_nil,List.sum_nil];exact(abd fun _ _=>rfl).symm
 |cons a f ih =>
  simp only[List.map_cons,List.sum_cons]
  rw[ih,sum_add (fun j=>g a j) fun j=>(f.map fun x=>g x j).sum]
theorem acX {α:Type} {f g:α->Int} {l:List α} (h:∀ x∈l,f x<=g x):(l.map f).sum<=(l.map g).sum:=by
 induction l with
 |nil=>exact Int.le_refl _
 |cons a l ih =>
  have:=h a (by simp)
  have:=ih fun x hx=>h x (by simp[hx])
  simp only[List.map_cons,List.sum_cons]
  omega
def V6 (k:Wk) (o:Nat->Int) (i:Nat):Int:=(((List.range k.n).filter (inB k i)).map o).sum
theorem ace {k:Wk} {o o':Nat->Int} {i:Nat} (h:∀ j,j<k.n->inB k i j=true->o j=o' j):V6 k o i=V6 k o' i:=by
 unfold V6
 congr 1
 exact List.map_congr_left fun j hj=>by
  obtain⟨h1,h2⟩:=List.mem_filter.1 hj
  exact h j (List.mem_range.1 h1) h2
theorem abB {k:Wk} (hok:k.Ok) (o:Nat->Int) {i:Nat} (hi:i<k.n):V6 k o i=o i+((k.fills i).map (V6 k o)).sum:=by
 have e1:((k.fills i).map (V6 k o)).sum=((List.range k.n).map fun j=>((k.fills i).map fun x=>if inB k x j then o j else 0).sum).sum:=by
  rw[<- ab8]
  congr 1
  exact List.map_congr_left fun x _=>aaU _ _ _
 have e2:o i=((List.range k.n).map fun j=>if j=i then o j else 0).sum:=by
  rw[abH (x:=i) List.nodup_range (List.mem_range.2 hi) fun y _ hy=>if_neg hy,if_pos rfl]
 unfold V6
 rw[aaU]
 conv=>rhs;rw[e2]
 rw[show((k.fills i).map fun i=>(((List.range k.n).filter (inB k i)).map o).sum).sum=((k.fills i).map (V6 k o)).sum from rfl,e1,<- sum_add]
 congr 1
 refine List.map_congr_left fun j hj=>?_
 have hj':=List.mem_range.1 hj
 by_cases e:j=i
 ·subst e
  rw[if_pos rfl,if_pos (gq k j),abd fun x hx=>?_]
  ·omega
  ·rw [if_neg]
   intro h
   have h1:=DN hok x j hj' h
   have h2:=(rV hok hx).1
   omega
 ·rw [if_neg e]
  by_cases hb:inB k i j=true
  ·rw [if_pos hb]
   rcases Ie hok i j hj' hb with h|⟨x,hx,hxb⟩
   ·exact absurd h e
   ·rw [abH (Bg k i) hx fun y hy hyx=>if_neg fun h=>hyx ?_,if_pos hxb]
    ·omega
    ·exact Qz hok (gK.1 hy).1 (gK.1 hx).1 (gK.1 hy).2 (gK.1 hx).2 j hj' h hxb
  ·rw [if_neg hb,abd fun x hx=>if_neg fun h=>hb (Rz hok hx j hj' h)]
   rfl
theorem aah {k:Wk} (hok:k.Ok) {r:Nat}:r∈k.sources↔r<k.n/\(k.v r).from_=-1:=by
 unfold Wk.sources
 rw[List.mem_filter,List.mem_range,decide_eq_true_eq]
 constructor
 ·rintro ⟨h1,h2⟩
  have:=(hok.ves r h1).1
  exact⟨h1,by omega⟩
 ·rintro ⟨h1,h2⟩
  exact⟨h1,by omega⟩
theorem abI (k:Wk):k.sources.Nodup:=List.nodup_range.filter _
theorem acz {k:Wk} (hok:k.Ok) (o:Nat->Int):((List.range k.n).map o).sum=(k.sources.map (V6 k o)).sum:=by
 have e1:(k.sources.map (V6 k o)).sum=((List.range k.n).map fun j=>(k.sources.map fun x=>if inB k x j then o j else 0).sum).sum:=by
  rw[<- ab8]
  congr 1
  exact List.map_congr_left fun x _=>aaU _ _ _
 rw[e1]
 congr 1
 refine List.map_congr_left fun j hj=>?_
 have hj':=List.mem_range.1 hj
 obtain⟨r,h1,h2,h3⟩:=Yf hok j hj'
 rw[abH (abI k) ((aah hok).2 ⟨h1,h2⟩) fun y hy hyx=>if_neg fun h=>hyx ?_,if_pos h3]
 have hy':=(aah hok).1 hy
 exact Qz hok hy'.1 h1 hy'.2 h2 j hj' h h3
def ac5 (k:Wk) (w:Nat->Nat) (st:Bool) (j:Nat):Int :=
 if k.fills j=[] then(if st then(w j:Int) else 0) else(if st then 0 else(w j:Int)-(((k.fills j).map w).sum:Nat))
theorem ab1 {k:Wk} {w w':Nat->Nat} (st:Bool) {j:Nat} (h1:w j=w' j) (h2:∀ x∈k.fills j,w x=w' x):ac5 k w st j=ac5 k w' st j:=by
 unfold ac5
 rw[h1,List.map_congr_left h2]
theorem aaZ {k:Wk} (hok:k.Ok) {w w':Nat->Nat} (st:Bool) {i:Nat} (h:∀ j,j<k.n->inB k i j=true->w j=w' j):V6 k (ac5 k w st) i=V6 k (ac5 k w' st) i :=
 ace fun j hj hb=>ab1 st (h j hj hb) fun x hx=>h x (gK.1 hx).1 (Hf hok hb hx)
theorem ab7 {k:Wk} (hok:k.Ok) {s:SS} {f:List Nat} {fr:Int} (hf:∀ x∈f,x<k.n/\(k.v x).from_=fr) {Wp:Nat->(Nat->Nat)->Prop} (hW:∀ x∈f,∃ w:Nat->Nat,Wp x w/\∀ j,j<k.n->inB k x j=true->Fit k s w j) (w0:Nat->Nat) :
  ∃ w:Nat->Nat,(∀ j,(∀ x∈f,inB k x j=false)->w j=w0 j)/\∀ x∈f,∃ wx:Nat->Nat,Wp x wx/\(∀ j,j<k.n->inB k x j=true->w j=wx j/\Fit k s w j):=by
 have hW':∀ x,∃ w:Nat->Nat,x∈f->Wp x w/\∀ j,j<k.n->inB k x j=true->Fit k s w j:=fun x=>by
  by_cases hx:x∈f
  ·obtain ⟨w,h⟩:=hW x hx
   exact⟨w,fun _=>h⟩
  ·exact⟨fun _=>0,fun h=>absurd h hx⟩
 let W:Nat->Nat->Nat:=fun x=>Classical.choose (hW' x)
 have hWs:∀ x∈f,Wp x (W x)/\∀ j,j<k.n->inB k x j=true->Fit k s (W x) j:=fun x hx=>Classical.choose_spec (hW' x) hx
 have gin:∀ {x j},x∈f->j<k.n->inB k x j=true->glue k f W w0 j=W x j:=fun {x j} hx hj hb=>Qh hx hb fun y hy hb'=>Qz hok (hf y hy).1 (hf x hx).1 (hf y hy).2 (hf x hx).2 j hj hb' hb
 refine⟨glue k f W w0,fun j h=>Ve h,fun x hx=>⟨W x,(hWs x hx).1,fun j hj hb=>⟨gin hx hj hb,?_⟩⟩⟩
 exact((hWs x hx).2 j hj hb).congr (gin hx hj hb) fun y hy=>gin hx (gK.1 hy).1 (Hf hok hb hy)
theorem abX {k:Wk} (hok:k.Ok) {s:SS} (hs:s.WF) (hlo:∀ i,0<=(s.aP i).1) (st:Bool):∀ (f i:Nat),i<k.n->k.n-i<=f ->
  Holds (jm k s st f i) fun n y=>∃ w:Nat->Nat,w i=n/\(∀ j,j<k.n->inB k i j=true->Fit k s w j)/\y=V6 k (ac5 k w st) i:=fun f=>by
 induction f with
 |zero=>exact fun i h1 h2=>by omega
 | succ f ih =>
  intro i hi hf
  rw[jm]
  by_cases hn:k.fills i=[]
  ·rw [if_pos hn]
   refine(acn s st i 41 (by omega)).congr fun n y=>?_
   have hbr:∀ w,V6 k (ac5 k w st) i=if st then(w i:Int) else 0:=fun w=>by
    rw[abB hok _ hi,hn]
    simp[ac5,hn]
   constructor
   ·rintro ⟨h1,h2,h3⟩
    refine⟨fun _=>n,rfl,fun j hj hb=>?_,by rw[hbr,h3]⟩
    rcases Ie hok i j hj hb with rfl|⟨x,hx,_⟩
    ·exact⟨h2,fun h=>absurd hn h⟩
    ·rw[hn]at hx;cases hx
   ·rintro ⟨w,rfl,h1,h2⟩
    have hl:=(h1 i hi (gq k i)).1
    have:=GU hs hl
    exact⟨by omega,hl,by rw[h2,hbr]⟩
  ·rw [if_neg hn]
   have hfg:=fun x hx=>rV hok (i:=i) (x:=x) hx
   have hH:=abG (k.fills i) (Bg k i) (fun x hx=>ih x (hfg x hx).2 (by have:=hfg x hx;omega)) (aaM.add (n:=0) (by decide) (Q:=fun y=>y=0) (v:=(0,0)) rfl rfl (by rintro y rfl;simp))
   refine(abW hH (s.aK i) st (hlo i) (hi:=(s.aP i).2) 41 (by omega)).congr fun n y=>?_
   constructor
   ·rintro ⟨x,d,y1,h1,h2,h3,rfl,h5,h6,⟨h7,n0,y0,c,z,h8,h9,rfl,rfl⟩,h10⟩
    obtain⟨rfl,rfl⟩:n0=0/\y0=0:=h8.resolve_left id
    obtain⟨w,hw1,hw2⟩:=ab7 hok (f:=k.fills i) (fr:=(i:Int)) (fun x hx=>gK.1 hx) (Wp:=fun x w=>w x=c x/\z x=V6 k (ac5 k w st) x) (fun x hx=>by
     obtain⟨w,g1,g2,g3⟩:=h9 x hx
     exact⟨w,⟨g1,g3⟩,g2⟩) (fun _=>0+((k.fills i).map c).sum+d)
    have hwi:w i=0+((k.fills i).map c).sum+d:=hw1 i fun x hx=>by
     cases hh:inB k x i
     ·rfl
     ·have:=DN hok x i hi hh
      have:=hfg x hx
      omega
    have hwc:(k.fills i).map w=(k.fills i).map c:=List.map_congr_left fun x hx=>by
     obtain⟨wx,⟨g1,_⟩,g2⟩:=hw2 x hx
     rw[(g2 x (hfg x hx).2 (gq k x)).1,g1]
    have hwz:(k.fills i).map (V6 k (ac5 k w st))=(k.fills i).map z:=List.map_congr_left fun x hx=>by
     obtain⟨wx,⟨_,g1⟩,g2⟩:=hw2 x hx
     rw[g1]
     exact aaZ hok st fun j hj hb=>(g2 j hj hb).1
    refine⟨w,hwi,fun j hj hb=>?_,?_⟩
    ·rcases Ie hok i j hj hb with rfl | ⟨x,hx,hbx⟩
     ·refine ⟨by rw [hwi];exact h6,fun _=>⟨d,?_,by rw [hwi,hwc];omega⟩⟩
      rw[wI]
      simp only[Bool.and_eq_true,decide_eq_true_eq]
      omega
     ·obtain ⟨wx,_,g2⟩:=hw2 x hx
      exact(g2 j hj hbx).2
    ·rw [abB hok _ hi,hwz,h10]
     unfold ac5
     rw[if_neg hn,hwc,hwi]
     cases st
     ·simp only[Bool.false_eq_true,if_false];omega
     ·simp only[if_true]
   ·rintro ⟨w,rfl,h1,h2⟩
    obtain⟨hl,hd⟩:=h1 i hi (gq k i)
    obtain⟨d,hd1,hd2⟩:=hd hn
    have h40:=GU hs hl
    rw[wI]at hd1
    simp only[Bool.and_eq_true,decide_eq_true_eq]at hd1
    refine⟨((k.fills i).map w).sum,d,((k.fills i).map (V6 k (ac5 k w st))).sum,by omega,by omega,by omega,hd2,h40,hl,⟨by omega,0,0,w,V6 k (ac5 k w st),.inr ⟨rfl,rfl⟩,fun x hx=>?_,by omega,by omega⟩,?_⟩
    ·exact⟨w,rfl,fun j hj hb=>h1 j hj (Rz hok hx j hj hb),rfl⟩
    ·rw [h2,abB hok _ hi]
     unfold ac5
     rw[if_neg hn,hd2]
     cases st
     ·simp only[Bool.false_eq_true,if_false];omega
     ·simp only[if_true];omega
theorem acj {g:Gr} {P:Nat->Int->Prop} (h:Holds g P) (m:Nat) :
  match gy g m with
  |none=>∀ n y,n<m->¬ P n y
  |some r=>(∃ n,n<m/\P n r.1)/\(∃ n,n<m/\P n r.2)/\∀ n y,n<m->P n y->r.1<=y/\y<=r.2:=by
 induction m with
 |zero=>exact fun n y hn=>absurd hn (by omega)
 | succ m ih =>
  rw[gy]
  by_cases hb:g.has.testBit m=true
  ·rw [if_pos hb]
   have h1:=h.lo m hb
   have h2:=h.hi m hb
   cases hf:gy g m with
   |none =>
    rw[hf]at ih
    refine⟨⟨m,by omega,h1⟩,⟨m,by omega,h2⟩,fun n y hn hp=>?_⟩
    by_cases e:n=m
    ·subst e;exact h.all n y hp
    ·exact absurd hp (ih n y (by omega))
   | some r =>
    rw[hf]at ih
    obtain⟨⟨n1,g1,g2⟩,⟨n2,g3,g4⟩,g5⟩:=ih
    refine⟨?_,?_,fun n y hn hp=>?_⟩
    ·show ∃ n,n < m+1/\P n (min r.1 (g.get m).1)
     rcases Int.le_total r.1 (g.get m).1 with h3|h3
     ·rw[Int.min_eq_left h3];exact⟨n1,by omega,g2⟩
     ·rw[Int.min_eq_right h3];exact⟨m,by omega,h1⟩
    ·show ∃ n,n < m+1/\P n (max r.2 (g.get m).2)
     rcases Int.le_total r.2 (g.get m).2 with h3|h3
     ·rw[Int.max_eq_right h3];exact⟨m,by omega,h2⟩
     ·rw[Int.max_eq_left h3];exact⟨n2,by omega,g4⟩
    ·show min r.1 (g.get m).1<=y/\y<=max r.2 (g.get m).2
     by_cases e:n=m
     ·subst e;have:=h.all n y hp;omega
     ·have:=g5 n y (by omega) hp;omega
  ·rw [if_neg hb]
   have hno:∀ y,¬ P m y:=fun y hp=>hb ((h.has m).2 ⟨y,hp⟩)
   cases hf:gy g m with
   |none =>
    rw[hf]at ih
    intro n y hn hp
    by_cases e:n=m
    ·subst e;exact hno y hp
    ·exact ih n y (by omega) hp
   |some r =>
    rw[hf]at ih
    obtain⟨⟨n1,g1,g2⟩,⟨n2,g3,g4⟩,g5⟩:=ih
    refine⟨⟨n1,by omega,g2⟩,⟨n2,by omega,g4⟩,fun n y hn hp=>?_⟩
    by_cases e:n=m
    ·subst e;exact absurd hp (hno y)
    ·exact g5 n y (by omega) hp
theorem ab9 {k:Wk} (hok:k.Ok) {s:SS} (hs:s.WF) (hlo:∀ i,0<=(s.aP i).1) (st:Bool) {i:Nat} (hi:i<k.n) {w0:Nat->Nat} (h0:∀ j,j<k.n->inB k i j=true->Fit k s w0 j) :
  (∃ w:Nat->Nat,(∀ j,j < k.n->inB k i j=true->Fit k s w j)/\V6 k (ac5 k w st) i=(kX k s st i).1)/\(∃ w:Nat->Nat,(∀ j,j < k.n->inB k i j=true->Fit k s w j)/\V6 k (ac5 k w st) i=(kX k s st i).2) /\
   ∀ w:Nat->Nat,(∀ j,j<k.n->inB k i j=true->Fit k s w j)->(kX k s st i).1<=V6 k (ac5 k w st) i/\V6 k (ac5 k w st) i<=(kX k s st i).2:=by
 have hH:=abX hok hs hlo st (k.n-i) i hi (Nat.le_refl _)
 have hf:=acj hH 41
 unfold kX Qg
 cases e:gy (jm k s st (k.n-i) i) 41 with
 |none =>
  rw[e]at hf
  have hp:∃ w:Nat->Nat,w i=w0 i/\(∀ j,j<k.n->inB k i j=true->Fit k s w j)/\V6 k (ac5 k w0 st) i=V6 k (ac5 k w st) i:=⟨w0,rfl,h0,rfl⟩
  have:=hH.small hp
  exact absurd hp (hf _ _ (by omega))
 |some r =>
  rw[e]at hf
  obtain⟨⟨n1,_,w1,_,g1,g2⟩,⟨n2,_,w2,_,g3,g4⟩,g5⟩:=hf
  refine⟨⟨w1,g1,g2.symm⟩,⟨w2,g3,g4.symm⟩,fun w hw=>?_⟩
  have hp:∃ w':Nat->Nat,w' i=w i/\(∀ j,j<k.n->inB k i j=true->Fit k s w' j)/\V6 k (ac5 k w st) i=V6 k (ac5 k w' st) i:=⟨w,rfl,hw,rfl⟩
  have:=hH.small hp
  exact g5 _ _ (by omega) hp
def aaw (k:Wk) (w:Nat->Nat) (st:Bool):Int:=((List.range k.n).map (ac5 k w st)).sum
theorem acO (k:Wk) (s:SS) (st:Bool):dW k s st=((k.sources.map fun i=>(kX k s st i).1).sum,(k.sources.map fun i=>(kX k s st i).2).sum):=by
 have key:∀ (l:List Nat) (t:Int × Int),l.foldl (fun t i=>dX t (kX k s st i)) t=(t.1+(l.map fun i=>(kX k s st i).1).sum,t.2+(l.map fun i=>(kX k s st i).2).sum):=fun l=>by
  induction l with
  |nil=>intro t;simp
  |cons a l ih =>
   intro t
   rw[List.foldl_cons,ih]
   simp only[dX,List.map_cons,List.sum_cons,Prod.mk.injEq]
   omega
 unfold dW
 rw[key]
 simp
theorem acr {k:Wk} (hok:k.Ok) {s:SS} (hs:s.WF) (hlo:∀ i,0<=(s.aP i).1) (st:Bool) {w0:Nat->Nat} (h0:Hu k s w0) :
  (∃ w,Hu k s w/\aaw k w st=(dW k s st).1)/\(∃ w,Hu k s w/\aaw k w st=(dW k s st).2)/\∀ w,Hu k s w->(dW k s st).1<=aaw k w st/\aaw k w st<=(dW k s st).2:=by
 have hF:=fun {i} (hi:i<k.n)=>ab9 hok hs hlo st hi fun j hj _=>h0 j hj
 have key:∀ g:Nat->Int,(∀ r∈k.sources,∃ w:Nat->Nat,V6 k (ac5 k w st) r=g r/\∀ j,j<k.n->inB k r j=true->Fit k s w j)->∃ w,Hu k s w/\aaw k w st=(k.sources.map g).sum:=fun g hg=>by
  obtain⟨w,_,hw⟩:=ab7 hok (f:=k.sources) (fr:=-1) (fun x hx=>(aah hok).1 hx) (Wp:=fun x w=>V6 k (ac5 k w st) x=g x) hg fun _=>0
  refine⟨w,fun j hj=>?_,?_⟩
  ·obtain ⟨r,h1,h2,h3⟩:=Yf hok j hj
   obtain⟨wx,_,g2⟩:=hw r ((aah hok).2 ⟨h1,h2⟩)
   exact(g2 j hj h3).2
  ·unfold aaw
   rw[acz hok]
   congr 1
   refine List.map_congr_left fun x hx=>?_
   obtain⟨wx,g1,g2⟩:=hw x hx
   rw[<- g1]
   exact aaZ hok st fun j hj hb=>(g2 j hj hb).1
 rw[acO]
 refine⟨key _ fun r hr=>?_,key _ fun r hr=>?_,fun w hw=>?_⟩
 ·obtain ⟨⟨w,h1,h2⟩,_⟩:=hF ((aah hok).1 hr).1
  exact⟨w,h2,h1⟩
 ·obtain ⟨_,⟨w,h1,h2⟩,_⟩:=hF ((aah hok).1 hr).1
  exact⟨w,h2,h1⟩
 ·unfold aaw
  rw[acz hok]
  refine⟨acX fun r hr=>?_,acX fun r hr=>?_⟩
  ·obtain ⟨_,_,h⟩:=hF ((aah hok).1 hr).1
   exact(h w fun j hj _=>hw j hj).1
  ·obtain ⟨_,_,h⟩:=hF ((aah hok).1 hr).1
   exact(h w fun j hj _=>hw j hj).2
structure Least (S:Int->Prop) (r:Int × Int):Prop where
 lo:S r.1
 hi:S r.2
 all:∀ y,S y->r.1<=y/\y<=r.2
theorem Least.eq {S S':Int->Prop} {r r':Int × Int} (h:Least S r) (h':Least S' r') (e:∀ y,S y↔S' y):r=r':=by
 have h1:=h.all _ ((e _).2 h'.lo)
 have h2:=h.all _ ((e _).2 h'.hi)
 have h3:=h'.all _ ((e _).1 h.lo)
 have h4:=h'.all _ ((e _).1 h.hi)
 exact Prod.ext (by omega) (by omega)
theorem Least.sub {S S':Int->Prop} {r r':Int × Int} (h:Least S r) (h':Least S' r') (e:∀ y,S y->S' y):r'.1<=r.1/\r.2<=r'.2 :=
 ⟨(h'.all _ (e _ h.lo)).1,(h'.all _ (e _ h.hi)).2⟩
theorem abZ {k:Wk} (hok:k.Ok) {s:SS} (hs:s.WF) {v:Nat} (hv:v<k.n) {w0:Nat->Nat} (h0:Hu k s w0):Least (fun y=>∃ w,Hu k s w/\y=(w v:Int)) (aO k s v):=by
 have key:∀ M,M<=41->((∃ m,m<M/\can k (s.weighed v (m:Nat))=true)->(∃ m:Nat,m<M/\can k (s.weighed v (m:Nat))=true/\(bZ k s v M).1=m)/\∃ m:Nat,m<M/\can k (s.weighed v (m:Nat))=true/\(bZ k s v M).2=m)/\((∀ m,m<M->¬ can k (s.weighed v (m:Nat))=true)->(bZ k s v M).1=40):=fun M=>by
  induction M with
  |zero=>exact fun _=>⟨fun⟨m,hm,_⟩=>absurd hm (by omega),fun _=>rfl⟩
  | succ M ih =>
   intro hM
   obtain⟨ih1,ih2⟩:=ih (by omega)
   rw[bZ]
   by_cases hc:can k (s.weighed v (M:Nat))=true
   ·rw [if_pos hc]
    refine⟨fun _=>⟨?_,⟨M,by omega,hc,rfl⟩⟩,fun h=>absurd hc (h M (by omega))⟩
    by_cases hex:∃ m,m<M/\can k (s.weighed v (m:Nat))=true
    ·obtain ⟨⟨m,h1,h2,h3⟩,_⟩:=ih1 hex
     refine⟨m,by omega,h2,?_⟩
     simp only;omega
    ·have h4:=ih2 fun m hm hcm=>hex ⟨m,hm,hcm⟩
     refine⟨M,by omega,hc,?_⟩
     simp only;omega
   ·rw [if_neg hc]
    refine⟨fun⟨m,hm,hcm⟩=>?_,fun h=>ih2 fun m hm=>h m (by omega)⟩
    have hmM:m<M:=by
     by_cases e:m=M
     ·subst e;exact absurd hcm hc
     ·omega
    obtain⟨⟨m1,h1,h2,h3⟩,⟨m2,h4,h5,h6⟩⟩:=ih1 ⟨m,hmM,hcm⟩
    exact⟨⟨m1,by omega,h2,h3⟩,⟨m2,by omega,h5,h6⟩⟩
 have h40:∀ w,Hu k s w->w v<=40:=fun w hw=>GU hs (hw v hv).1
 obtain⟨⟨m1,a1,a2,a3⟩,⟨m2,b1,b2,b3⟩⟩:=(key 41 (Nat.le_refl _)).1 ⟨w0 v,by have:=h40 w0 h0;omega,(vZ hok hs hv (h40 w0 h0)).2 ⟨w0,h0,rfl⟩⟩
 obtain⟨w1,c1,c2⟩:=(vZ hok hs hv (by omega)).1 a2
 obtain⟨w2,d1,d2⟩:=(vZ hok hs hv (by omega)).1 b2
 refine⟨⟨w1,c1,by rw[c2];exact a3⟩,⟨w2,d1,by rw[d2];exact b3⟩,?_⟩
 rintro y ⟨w,hw,rfl⟩
 exact NV (h40 w hw) ((vZ hok hs hv (h40 w hw)).2 ⟨w,hw,rfl⟩)
theorem abq {s:SS} (hs:s.WF) {v:Nat} (hv:v<6) (p:Int × Int) (j:Nat):(s.eu v p).aP j=if v=j then p else s.aP j:=fC _ _ _ _ _ (by rw[hs.los];exact hv)
theorem acp {k:Wk} (h6:k.n<=6) {s:SS} (hs:s.WF) {v:Nat} (hv:v<k.n) (hf:k.fills v≠[]) {d:Nat} (hd:(s.aP v).1<=d/\(d:Int)<=(s.aP v).2) (h40:d<=40) (w:Nat->Nat) :
  Hu k (s.eu v (d,d)) w↔Hu k s w/\ac5 k w false v=d:=by
 have hl:∀ w,Hu k (s.eu v (d,d)) w->w v=((k.fills v).map w).sum+d:=fun w h=>by
  obtain⟨_,h2⟩:=h v hv
  obtain⟨e,h3,h4⟩:=h2 hf
  rw[abq hs (by omega),if_pos rfl,wI]at h3
  simp only[Bool.and_eq_true,decide_eq_true_eq]at h3
  omega
 constructor
 ·intro h
  have hw:=hl w h
  refine⟨fun j hj=>?_,by unfold ac5;rw[if_neg hf];simp only[Bool.false_eq_true,if_false];omega⟩
  obtain⟨h1,h2⟩:=h j hj
  refine⟨h1,fun hn=>?_⟩
  by_cases e:v=j
  ·subst e
   refine⟨d,?_,hw⟩
   rw[wI]
   simp only[Bool.and_eq_true,decide_eq_true_eq]
   omega
  ·obtain ⟨x,h3,h4⟩:=h2 hn
   rw[abq hs (by omega),if_neg e]at h3
   exact⟨x,h3,h4⟩
 ·rintro ⟨h,hw⟩ j hj
  obtain⟨h1,h2⟩:=h j hj
  refine⟨h1,fun hn=>?_⟩
  rw[abq hs (by omega)]
  by_cases e:v=j
  ·subst e
   refine⟨d,?_,?_⟩
   ·rw [if_pos rfl,wI]
    simp only[Bool.and_eq_true,decide_eq_true_eq]
    omega
   ·unfold ac5 at hw
    rw[if_neg hf]at hw
    simp only[Bool.false_eq_true,if_false]at hw
    omega
  ·rw [if_neg e]
   exact h2 hn
theorem SS.WF.adb {s:SS} (hs:s.WF) (v:Nat) (p:Int × Int):(s.eu v p).WF:=⟨hs.lim,by simp[SS.eu,hs.los],hs.small⟩
theorem acw {k:Wk} (hok:k.Ok) {s:SS} (hs:s.WF) (hlo:∀ i,0<=(s.aP i).1) (hhi:∀ i,(s.aP i).2<=40) {v:Nat} (hv:v<k.n) {w0:Nat->Nat} (h0:Hu k s w0):Least (fun y=>∃ w,Hu k s w/\y=ac5 k w false v) (aal k s v):=by
 unfold aal
 by_cases hf:k.fills v=[]
 ·rw [if_pos hf]
  have e:∀ w,ac5 k w false v=0:=fun w=>by unfold ac5;rw[if_pos hf];rfl
  exact⟨⟨w0,h0,(e w0).symm⟩,⟨w0,h0,(e w0).symm⟩,fun y ⟨w,_,hy⟩=>by rw[hy,e];omega⟩
 ·rw [if_neg hf]
  have hl:=hlo v
  have hh:=hhi v
  generalize hL:(s.aP v).1=L at hl |-
  generalize hH:(s.aP v).2=H at hh |-
  have hcan:∀ m:Nat,L+m<=H->(can k (s.eu v (L+m,L+m))=true↔∃ w,Hu k s w/\ac5 k w false v=L+m):=fun m hm=>by
   rw[QS hok (hs.adb v _)]
   have hd:(((L+m).toNat:Nat):Int)=L+m:=by omega
   have:=fun w=>acp hok.le hs hv hf (d:=(L+m).toNat) (by omega) (by omega) w
   rw[hd]at this
   exact⟨fun⟨w,hw⟩=>⟨w,(this w).1 hw⟩,fun⟨w,hw⟩=>⟨w,(this w).2 hw⟩⟩
  have hin:∀ w,Hu k s w->L<=ac5 k w false v/\ac5 k w false v<=H:=fun w hw=>by
   obtain⟨_,h2⟩:=hw v hv
   obtain⟨d,h3,h4⟩:=h2 hf
   rw[wI,hL,hH]at h3
   simp only[Bool.and_eq_true,decide_eq_true_eq]at h3
   unfold ac5
   rw[if_neg hf]
   simp only[Bool.false_eq_true,if_false]
   omega
  have key:∀ M:Nat,(∀ m:Nat,m < M->L+m<=H)->((∃ m:Nat,m < M/\can k (s.eu v (L+m,L+m))=true)->(∃ m:Nat,m < M/\can k (s.eu v (L+m,L+m))=true/\(aeJ k s v M).1=L+m)/\∃ m:Nat,m < M/\can k (s.eu v (L+m,L+m))=true/\(aeJ k s v M).2=L+m) /\
    ((∀ m:Nat,m<M->¬ can k (s.eu v (L+m,L+m))=true)->aeJ k s v M=(H,L))/\∀ m:Nat,m<M->can k (s.eu v (L+m,L+m))=true->(aeJ k s v M).1<=L+m/\L+m<=(aeJ k s v M).2:=fun M=>by
   induction M with
   |zero=>exact fun _=>⟨fun⟨m,hm,_⟩=>absurd hm (by omega),fun _=>by rw[aeJ,hL,hH],fun m hm=>absurd hm (by omega)⟩
   | succ M ih =>
    intro hM
    obtain⟨ih1,ih2,ih3⟩:=ih fun m hm=>hM m (by omega)
    have hMH:=hM M (by omega)
    rw[aeJ,hL]
    by_cases hc:can k (s.eu v (L+M,L+M))=true
    ·rw [if_pos hc]
     refine⟨fun _=>?_,fun h=>absurd hc (h M (by omega)),fun m hm hcm=>?_⟩
     ·by_cases hex:∃ m:Nat,m < M/\can k (s.eu v (L+m,L+m))=true
      ·obtain ⟨⟨m,h1,h2,h3⟩,⟨m',h4,h5,h6⟩⟩:=ih1 hex
       refine⟨⟨m,by omega,h2,?_⟩,⟨M,by omega,hc,?_⟩⟩
       ·simp only;omega
       ·simp only;omega
      ·have h4:=ih2 fun m hm hcm=>hex ⟨m,hm,hcm⟩
       rw[h4]
       refine⟨⟨M,by omega,hc,?_⟩,⟨M,by omega,hc,?_⟩⟩
       ·simp only;omega
       ·simp only;omega
     ·simp only
      by_cases e:m=M
      ·subst e;omega
      ·have:=ih3 m (by omega) hcm;omega
    ·rw [if_neg hc]
     have hlt:∀ m:Nat,m<M+1->can k (s.eu v (L+m,L+m))=true->m<M:=fun m hm hcm=>by
      by_cases e:m=M
      ·subst e;exact absurd hcm hc
      ·omega
     refine⟨fun⟨m,hm,hcm⟩=>?_,fun h=>ih2 fun m hm=>h m (by omega),fun m hm hcm=>ih3 m (hlt m hm hcm) hcm⟩
     obtain⟨⟨m1,h1,h2,h3⟩,⟨m2,h4,h5,h6⟩⟩:=ih1 ⟨m,hlt m hm hcm,hcm⟩
     exact⟨⟨m1,by omega,h2,h3⟩,⟨m2,by omega,h5,h6⟩⟩
  obtain⟨k1,_,k3⟩:=key (H-L+1).toNat fun m hm=>by omega
  have hg:=hin w0 h0
  obtain⟨⟨m1,a1,a2,a3⟩,⟨m2,b1,b2,b3⟩⟩:=k1 ⟨(ac5 k w0 false v-L).toNat,by omega,(hcan _ (by omega)).2 ⟨w0,h0,by omega⟩⟩
  obtain⟨w1,c1,c2⟩:=(hcan m1 (by omega)).1 a2
  obtain⟨w2,d1,d2⟩:=(hcan m2 (by omega)).1 b2
  refine⟨⟨w1,c1,by rw[c2,a3]⟩,⟨w2,d1,by rw[d2,b3]⟩,?_⟩
  rintro y ⟨w,hw,rfl⟩
  have hgw:=hin w hw
  have:=k3 (ac5 k w false v-L).toNat (by omega) ((hcan _ (by omega)).2 ⟨w,hw,by omega⟩)
  omega
theorem ab3 {k:Wk} (hok:k.Ok) {s:SS} (hs:s.WF) (hlo:∀ i,0<=(s.aP i).1) (st:Bool) {w0:Nat->Nat} (h0:Hu k s w0):Least (fun y=>∃ w,Hu k s w/\y=aaw k w st) (dW k s st):=by
 obtain⟨⟨w1,a1,a2⟩,⟨w2,b1,b2⟩,h⟩:=acr hok hs hlo st h0
 exact⟨⟨w1,a1,a2.symm⟩,⟨w2,b1,b2.symm⟩,by rintro y ⟨w,hw,rfl⟩;exact h w hw⟩
theorem acK {k:Wk} (hok:k.Ok) (b:je->Bool) (i:Nat):((aN k b).aP i).2<=40:=by
 rw[rW k hok]
 split
 ·rename_i hi
  have:(k.v i).hi<=20:=(hok.ves i hi).2.2.2.2.2.2.2.1
  simp only;omega
 ·decide
theorem abA {k:Wk} (hok:k.Ok) {v:Nat} (hv:v<k.n) {w0:Nat->Nat} (h0:Hu k (aN k aC) w0):Least (fun y=>∃ w,Hu k (aN k aC) w/\y=(w v:Int)) (aO k (aN k aC) v):=abZ hok (gG _ _) hv h0
theorem ab6 {k:Wk} (hok:k.Ok) {v:Nat} (hv:v<k.n) {w0:Nat->Nat} (h0:Hu k (aN k aC) w0):Least (fun y=>∃ w,Hu k (aN k aC) w/\y=ac5 k w false v) (aal k (aN k aC) v):=acw hok (gG _ _) (QU k hok aC) (acK hok aC) hv h0
theorem abL {k:Wk} (hok:k.Ok) (st:Bool) {w0:Nat->Nat} (h0:Hu k (aN k aC) w0):Least (fun y=>∃ w,Hu k (aN k aC) w/\y=aaw k w st) (dW k (aN k aC) st):=ab3 hok (gG _ _) (QU k hok aC) st h0
end Go.Wg
namespace Go.Proofs.YtjjmefieegcddaaDoor
open Go.RowKit Go.Wg Go.Mm Go.Wk
open Go Go.Sr Go.Ph Go.Tm Go.Conc
variable {w:World} {V:View} {w0:World} {L:List dF} {X:List Nat} {f0:FuncId} {R:Ending->World->Prop} {k0:List Item} {a:Act}
theorem acA {k:Wk} (hok:k.Ok):vX k=if can k (aN k aC) then(dW k (aN k aC) false,0) else((0,0),9):=by
 unfold vX can
 rw[if_pos (G7 hok [] (fun n hn=>nomatch hn))]
theorem ac3 {N:FuncId} {fn:Func} {y:Array Operand} {ats:Array TypeId} {args:Array Value} {v:Value} {ops:Array Oper} {l:List Nat} {i:Nat} {o:Oper} (d:Nat) (hS:St w0 X V L w) (hf:Tryd.prog.funcs[N]? = some fn) (hb:(fn.name == "runtime.NumGoroutine")=false) (hb2:fn.body.isNone=false) (hc:∀ τ d,ay OC (w.re τ d)->kL Tryd.prog N args (w.re τ d) fun e w'=>e=.returned v/\Kp (w.re τ d) w')
  (hd:a.defers=[]) (ho:ops[i]? = some o) (hdst:o.dst=some d) (hw:Region.wanted o (yielded ops a.tmps)=true) (hop:o.op=.call {callee:=.value (.func N),args:=y,argTypes:=ats}) (hy:y.toList.map a.eval=args.toList)
  (h:∀ w' a',St w0 X V L w'->a.put (some d) v=a'->RB f0 R (.inRegion ops l::k0) a' w'):RB f0 R (.inRegion ops (i::l)::k0) a w:=by
 refine ac7 (N:=N) (args:=args) (R':=fun e w'=>e=.returned v/\Kp w w') hd ho hw (by rw[hop];rfl) (fun w1=>?_) (fun ch w1 h=>nomatch h.1) (fun τ d hh=>(hc τ d hh).mono fun e w1 h=>⟨h.1,uq h.2⟩) ?_
 ·rw[run_call_body hop hf hb hb2,show y.map a.eval=args from Array.ext' (by rw[Array.toList_map,hy])]
 rintro v' w1 ⟨hv,hk⟩
 cases hv
 rw[hdst]
 exact h _ _ (hS.kp hk) rfl
theorem acB {vv rv:Value} {k:Wk} {x1 x2 e:Int} {y:Array Operand} {ats:Array TypeId} {ops:Array Oper} {l:List Nat} {i:Nat} {o:Oper} (d:Nat) (hS:St w0 X V L w) (hB:Bs V) (hk:iJ V vv rv k) (hv:vX k=((x1,x2),e))
  (hd:a.defers=[]) (ho:ops[i]? = some o) (hdst:o.dst=some d) (hw:Region.wanted o (yielded ops a.tmps)=true) (hop:o.op=.call {callee:=.value (.func 40),args:=y,argTypes:=ats}) (hy:y.toList.map a.eval=[.agg #[vv,rv]])
  (h:∀ w' a',St w0 X V L w'->a.put (some d) (.tuple #[.agg #[.int .i64 x1,.int .i64 x2],.int .i64 e])=a'->RB f0 R (.inRegion ops l::k0) a' w'):RB f0 R (.inRegion ops (i::l)::k0) a w:=by
 refine ac3 d hS Tryd.func40 (by kernel_rfl) (by kernel_rfl) (fun τ d hh=>?_) hd ho hdst hw hop hy h
 have hL:=ZB vv rv k hk hB.gv (hS.re1 τ d).view hh
 rw[hv]at hL
 exact hL
theorem acy {y:Array Operand} {ats:Array TypeId} {ops:Array Oper} {l:List Nat} {i:Nat} {o:Oper} (d:Nat) (hS:St w0 X V L w) (hB:Bs V)
  (hd:a.defers=[]) (ho:ops[i]? = some o) (hdst:o.dst=some d) (hw:Region.wanted o (yielded ops a.tmps)=true) (hop:o.op=.call {callee:=.value (.func 21),args:=y,argTypes:=ats}) (hy:y.toList.map a.eval=[])
  (h:∀ w' a',St w0 X V L w'->a.put (some d) (.bool true)=a'->RB f0 R (.inRegion ops l::k0) a' w'):RB f0 R (.inRegion ops (i::l)::k0) a w :=
 ac3 d hS Tryd.func21 (by kernel_rfl) (by kernel_rfl) (fun τ d hh=>TB hB (hS.re1 τ d).view hh) hd ho hdst hw hop hy h
theorem ac2 {fn:Func} (hf:Tryd.prog.funcs[f0]? = some fn) (hS:St w0 [] V L w) (hd:a.defers=[]) (hr:∀ w,(results fn a.tmps).run Tryd.prog w=.ok (.bool true) w):RB f0 (fun r w'=>r=.returned (.bool true)/\Kp w0 w') (.code .ret::k0) a w :=
 adh hf hd hr (fun τ d=>⟨rfl,adC hS.bM τ d⟩) xM
theorem abr {tgt todo:List Item} (hit:todo.all qy=true) (hd:a.defers=[]) (hS:St w0 X V L w) (h:∀ w',St w0 X V L w'->fA Tryd.prog tgt (RB f0 R tgt) todo a w'):RB f0 R todo a w :=
 ado tgt hit hd fun τ d=>h _ (hS.re1 τ d)
theorem abP {tgt k:List Item} {S:Act->World->Prop} (n:Nat) {l:List Oper} (hn:n<=l.length) (hw:wpList Tryd.prog l.toArray (fun e a' w'=>e=.normal/\fA Tryd.prog tgt S (.inRegion l.toArray (List.range' n (l.length-n))::k) a' w') (l.take n) a w) :
  fA Tryd.prog tgt S (.inRegion l.toArray (List.range l.toArray.size)::k) a w:=by
 have e:List.range l.toArray.size=List.range' 0 (l.take n).length ++ List.range' n (l.length-n):=by
  rw[List.range_eq_range',List.length_take,Nat.min_eq_left hn]
  have:=List.range'_append (s:=0) (m:=n) (n:=l.length-n) (step:=1)
  rw[Nat.zero_add,Nat.one_mul]at this
  rw[this]
  congr 1
  show l.length=_
  omega
 rw[e]
 refine abT _ a w ?_
 rw[abE (l.take n) 0 fun j hj=>?_]
 ·exact hw
 ·rw [List.length_take] at hj
  rw[Nat.zero_add,List.getElem?_take,if_pos (by omega)]
  simp
theorem abe {tgt k:List Item} {S:Act->World->Prop} (n:Nat) {l:List Oper} {m:List Nat} (hm:m=List.range' n (l.length-n)) (hw:wpList Tryd.prog l.toArray (fun e a' w'=>e=.normal/\fA Tryd.prog tgt S (.inRegion l.toArray []::k) a' w') (l.drop n) a w):fA Tryd.prog tgt S (.inRegion l.toArray m::k) a w:=by
 subst hm
 have e:List.range' n (l.length-n)=List.range' n (l.drop n).length ++ []:=by rw[List.length_drop,List.append_nil]
 rw[e]
 refine abT _ a w ?_
 rw[abE (l.drop n) n fun j hj=>?_]
 ·exact hw
 ·rw [List.getElem?_drop]
  simp
end Go.Proofs.YtjjmefieegcddaaDoor
namespace Go.Wg
open Go Go.Mm Go.Proofs.YtjjmefieegcddaaDoor
end Go.Wg
namespace Go.Proofs.YtjjmefieegcddaaDoor
open Go.RowKit Go.Wg Go.Mm Go.Wk
open Go Go.Sr Go.Ph Go.Tm Go.Conc
variable {w w0:World} {V:View}
end Go.Proofs.YtjjmefieegcddaaDoor
namespace Go.Mm
open Go
variable {P:Program} {w0:World} {X:List Nat} {V:View} {L:List dF} {w:World}
variable {l:List Oper} {md:Region.Mode} {o:Oper} {a:Act} {Q:Exit->Act->World->Prop} {S:World->Prop} {fuel:Nat} {listed:Array Bool}
theorem DZ (i:Nat) (hi₀:l[i]? = some o) (hw:Region.wanted o (yielded l.toArray a.tmps)=true)
  (h:∃ f args,(execOp a.eval o).run P w=.ok (.enter f args) w/\Calls P f args w fun e w'=>∃ v,e=.returned v/\∀ a' l',a.put o.dst v=a'->listed.setIfInBounds i true=l'->S w'/\wpAnyH P md l.toArray Q S fuel l' a' w') :
  wpOp P l.toArray Q i (fun a' w'=>S w'/\wpAnyH P md l.toArray Q S fuel (listed.setIfInBounds i true) a' w') a w:=by
 obtain⟨f,args,hr',hc⟩:=h
 exact yB (R:=fun v w'=>∀ a' l',a.put o.dst v=a'->listed.setIfInBounds i true=l'->S w'/\wpAnyH P md l.toArray Q S fuel l' a' w') (jV hi₀) hw hr' hc fun v w' h=>h _ _ rfl rfl
theorem oZ (i:Nat) (hr:Region.ready md l.toArray listed=[i]) (hi₀:l[i]? = some o) (hw:Region.wanted o (yielded l.toArray a.tmps)=true)
  (h:∃ f args,(execOp a.eval o).run P w=.ok (.enter f args) w/\Calls P f args w fun e w'=>∃ v,e=.returned v/\∀ a' l',a.put o.dst v=a'->listed.setIfInBounds i true=l'->S w'/\wpAnyH P md l.toArray Q S fuel l' a' w'):wpAnyH P md l.toArray Q S (fuel+1) listed a w :=
 mG hr (DZ i hi₀ hw h)
end Go.Mm
namespace Go.Proofs.YtjjmefieegcddaaDoor
open Go.RowKit Go.Wg Go.Mm
variable {w:World} {V:View} {w0:World} {L:List dF}
theorem RP {l:List Int} {v:Value} {X:List Nat} {w0:World} {V:View} {L:List dF} {w:World} (h:St w0 X V (.row v 3 1 l.length (aV l)::L) w):∃ V',(∀ j o,V j=some o->V' j=some o)/\St w0 X V' L w/\VI V' v l:=by
 rcases rO h with⟨rfl,h0⟩|⟨g,cap,pad,rfl,c1,c2,c3,c4,c5,h1⟩
 ·exact⟨V,fun _ _ h=>h,h.drop,⟨⟨none,0,by rw[h0],by omega,by decide,fun hn=>by omega⟩⟩⟩
 ·have hgV:=h1.off _ (List.mem_cons_self ..) g rfl
  refine⟨_,oG hgV,h1.freeze,⟨⟨_,cap,rfl,c1,c2,fun _=>⟨g,0,rfl,fun i hi j u hj=>?_⟩⟩⟩⟩
  obtain rfl:j=0:=by
   cases j with
   |zero=>rfl
   |succ j=>simp at hj
  simp only[List.getElem?_cons_zero,Option.some.injEq]at hj
  subst hj
  refine⟨_,_,_,if_pos rfl,?_⟩
  rw[List.getElem?_toArray,Nat.mul_one,Nat.zero_add,Nat.add_zero,List.getElem?_append_left (by rw[iD];exact hi)]
  exact nI rfl hi
end Go.Proofs.YtjjmefieegcddaaDoor
namespace Go.Wg
open Go Go.Mm Go.Proofs.YtjjmefieegcddaaDoor
end Go.Wg
namespace Go.Proofs.YtjjmefieegcddaaDoor
open Go.RowKit Go.Wg Go.Mm
variable {w:World} {V:View} {w0:World} {L:List dF}
theorem aav {w0:World} {X:List Nat} {L:List dF} {vv rv:Value} {k:Wk} {R:Ending->World->Prop} {v a b e:Int} (hS:St w0 X V L w) (hB:Bs V) (hk:iJ V vv rv k) (hv:aaG k v=((a,b),e))
  (h:∀ w',St w0 X V L w'->R (.returned (.tuple #[.agg #[.int .i64 a,.int .i64 b],.int .i64 e])) w'):Calls Tryd.prog 63 #[.agg #[vv,rv],.int .i64 v] w R:=by
 have hc:=ac6 vv rv k hk hB.gv hS.view v
 rw[hv]at hc
 exact aH hS ⟨_,hc,h⟩
end Go.Proofs.YtjjmefieegcddaaDoor
namespace Go.Proofs.YtjjmefieegcddaaDoor
open Go.RowKit Go.Wg Go.Mm Go.Wk
open Go Go.Sr Go.Ph Go.Tm Go.Conc
variable {w w0:World} {V:View}
end Go.Proofs.YtjjmefieegcddaaDoor
namespace Go.Mm
open Go
variable {P:Program} {w0:World} {X:List Nat} {V:View} {L:List dF} {w:World}
variable {l:List Oper} {md:Region.Mode} {o:Oper} {a:Act} {Q:Exit->Act->World->Prop} {S:World->Prop} {fuel:Nat} {listed:Array Bool}
theorem gHd {l:Array Oper} (h:wpAnyH P md l Q S fuel listed a w):wpAnyH P md l Q S fuel listed a w:=h
theorem gWo {l:Array Oper} {i:Nat} {K:Act->World->Prop} (h:wpOp P l Q i K a w):wpOp P l Q i K a w:=h
theorem acZ (i:Nat) (hi₀:l[i]? = some o) (hS:St w0 X V L w) (hw:Region.wanted o (yielded l.toArray a.tmps)=true) {ty:TypeId} (ho:o.op=.alloc ty) {cs:List Value} [hz:lX P ty cs]
  (h:∀ b a' l',a.put o.dst (.pointer (some ⟨b,0,none⟩))=a'->listed.setIfInBounds i true=l'->∀ w',St w0 X V (.blk b ty cs::L) w'->S w'/\wpAnyH P md l.toArray Q S fuel l' a' w') :
  wpOp P l.toArray Q i (fun a' w'=>S w'/\wpAnyH P md l.toArray Q S fuel (listed.setIfInBounds i true) a' w') a w :=
 abN hS (jV hi₀) hw ho hz.has hz.ok fun b w' hS'=>h b _ _ rfl rfl w' hS'
end Go.Mm
namespace Go.Wg
open Go Go.Mm Go.Proofs.YtjjmefieegcddaaDoor
def aeX (σ:Nat->Nat) (r:je):je:=⟨(σ r.vessel.toNat:Nat),r.scale,r.shown,r.err⟩
def ae7 (σ:Nat->Nat) (v:nN):nN:=⟨if v.from_<0 then v.from_ else(σ v.from_.toNat:Nat),v.room,v.lo,v.hi⟩
structure mg (k x:Wk) (g σ:Nat->Nat):Prop where
 n:x.n=k.n
 lt:∀ i,i<k.n->σ i<k.n
 gl:∀ q,q<k.n->g q<k.n
 sg:∀ q,q<k.n->σ (g q)=q
 gs:∀ i,i<k.n->g (σ i)=i
 ves:∀ i,i<k.n->x.v (σ i)=ae7 σ (k.v i)
 rdg:x.rdg=k.rdg.map (aeX σ)
 up:∀ i,i<k.n->0<=(k.v i).from_->σ (k.v i).from_.toNat<σ i
theorem afm (w:Nat->Nat) (l:List Nat):(((l.map w).sum:Nat):Int)=(l.map fun x=>(w x:Int)).sum:=by
 induction l with
 |nil=>rfl
 |cons a l ih=>simp only[List.map_cons,List.sum_cons];omega
variable {k x:Wk} {g σ:Nat->Nat}
theorem mg.inj (h:mg k x g σ) {i j:Nat} (hi:i<k.n) (hj:j<k.n) (e:σ i=σ j):i=j:=by
 have:=h.gs i hi
 rw[e,h.gs j hj]at this
 exact this.symm
theorem mg.sum (h:mg k x g σ) (o:Nat->Int):((List.range k.n).map o).sum=((List.range k.n).map fun i=>o (σ i)).sum:=by
 have e1:∀ i∈List.range k.n,o (σ i)=((List.range k.n).map fun q=>if q=σ i then o q else 0).sum:=fun i hi=>by
  rw[abH (x:=σ i) List.nodup_range (List.mem_range.2 (h.lt i (List.mem_range.1 hi))) fun y _ hy=>if_neg hy,if_pos rfl]
 rw[List.map_congr_left e1,ab8]
 congr 1
 refine List.map_congr_left fun q hq=>?_
 have hq':=List.mem_range.1 hq
 rw[abH (x:=g q) List.nodup_range (List.mem_range.2 (h.gl q hq')) fun y hy hyx=>if_neg fun e=>hyx ?_,if_pos (h.sg q hq').symm]
 rw[e,h.gs y (List.mem_range.1 hy)]
theorem mg.ae1 (h:mg k x g σ) (hok:k.Ok) {i j:Nat} (hi:i<k.n) (hj:j<k.n):(x.v (σ j)).from_=(σ i:Nat)↔(k.v j).from_=(i:Int):=by
 rw[h.ves j hj]
 unfold ae7
 dsimp only
 have h1:=(hok.ves j hj).2.1
 by_cases hn:(k.v j).from_<0
 ·rw[if_pos hn];omega
 ·rw [if_neg hn]
  constructor
  ·intro e
   have:=h.inj (i:=(k.v j).from_.toNat) (j:=i) (by omega) hi (by omega)
   omega
  ·intro e
   rw[e,Int.toNat_natCast]
theorem mg.afd (h:mg k x g σ) (hok:k.Ok) {i:Nat} (hi:i<k.n):x.fills (σ i)=[]↔k.fills i=[]:=by
 rw[List.eq_nil_iff_forall_not_mem,List.eq_nil_iff_forall_not_mem]
 constructor
 ·intro hx j hj
  obtain⟨h1,h2⟩:=gK.1 hj
  exact hx (σ j) (gK.2 ⟨by rw[h.n];exact h.lt j h1,(h.ae1 hok hi h1).2 h2⟩)
 ·intro hx q hq
  obtain⟨h1,h2⟩:=gK.1 hq
  rw[h.n]at h1
  rw[<- h.sg q h1]at h2
  exact hx (g q) (gK.2 ⟨h.gl q h1,(h.ae1 hok hi (h.gl q h1)).1 h2⟩)
theorem mg.aff (h:mg k x g σ) (hok:k.Ok) {i:Nat} (hi:i<k.n) (u:Nat->Nat):((x.fills (σ i)).map u).sum=((k.fills i).map fun j=>u (σ j)).sum:=by
 have e:(((x.fills (σ i)).map u).sum:Int)=(((k.fills i).map fun j=>u (σ j)).sum:Nat):=by
  rw[afm,afm]
  unfold Wk.fills
  rw[aaU,aaU,h.n,h.sum]
  congr 1
  refine List.map_congr_left fun j hj=>?_
  have:=h.ae1 hok hi (List.mem_range.1 hj)
  by_cases c:(k.v j).from_=(i:Int)
  ·rw[if_pos (by simpa using this.2 c),if_pos (by simpa using c)]
  ·rw[if_neg (by simpa using fun e=>c (this.1 e)),if_neg (by simpa using c)]
 omega
theorem mg.ok (h:mg k x g σ) (hok:k.Ok):x.Ok:=by
 have hp:=hok.pos
 refine⟨by rw[h.n];exact hp,by rw[h.n];exact hok.le,fun q hq=>?_,?_,fun q hq=>?_⟩
 ·rw [h.n] at hq
  have hg:=h.gl q hq
  have e:=h.ves (g q) hg
  rw[h.sg q hq]at e
  rw[e]
  obtain⟨o1,o2,o3⟩:=hok.ves (g q) hg
  have hu:=h.up (g q) hg
  rw[h.sg q hq]at hu
  unfold ae7
  refine⟨?_,?_,o3⟩
  ·show -1<=(if _ then _ else _)
   split
   ·omega
   ·exact Int.le_trans (by decide) (Int.natCast_nonneg _)
  ·show (if _ then _ else _) < (q:Int)
   split
   ·omega
   ·have:=hu (by omega);omega
 ·rw[h.rdg,List.length_map];exact hok.rdl
 ·rw [h.rdg,List.length_map] at hq
  have hr:=hok.rdg q hq
  have e:x.rdg.getD q default=aeX σ (k.rdg.getD q default):=by
   rw[h.rdg]
   simp[List.getD_eq_getElem?_getD,List.getElem?_eq_getElem hq]
  rw[e,h.n]
  obtain⟨r1,r2,r3⟩:=hr
  have:=h.lt (k.rdg.getD q default).vessel.toNat (by omega)
  refine⟨?_,?_,r3⟩
  ·show(0:Int)<=(σ _:Nat);omega
  ·show((σ _:Nat):Int)<_;omega
theorem mg.fit (h:mg k x g σ) (hok:k.Ok) {i:Nat} (hi:i<k.n) (u:Nat->Nat):Fit x (aN x aC) u (σ i)↔Fit k (aN k aC) (fun j=>u (σ j)) i:=by
 have hx:=h.ok hok
 have hxi:σ i<x.n:=by rw[h.n];exact h.lt i hi
 have e1:(aN x aC).aK (σ i)=(aN k aC).aK i:=by
  rw[Dh hx.le (yF hx) aC hxi,Dh hok.le (yF hok) aC hi,h.ves i hi,h.rdg,List.filter_map,RZ _ _ (aeX σ) fun r=>⟨rfl,rfl⟩]
  congr 1
  refine List.filter_congr fun r hr=>?_
  have hrv:=yF hok r hr
  show(!aC (aeX σ r) && ((σ r.vessel.toNat:Nat):Int).toNat == σ i)=_
  rw[Int.toNat_natCast,Bool.eq_iff_iff]
  simp only[aC,Bool.not_false,Bool.true_and,beq_iff_eq]
  exact⟨fun e=>h.inj (by omega) hi e,fun e=>by rw[e]⟩
 have e2:(aN x aC).aP (σ i)=(aN k aC).aP i:=by
  rw[rW x hx,rW k hok,if_pos hxi,if_pos hi,h.ves i hi]
  rfl
 unfold Fit
 rw[e1,e2,h.aff hok hi]
 have:=h.afd hok hi
 constructor
 ·rintro ⟨a,b⟩;exact⟨a,fun hn=>b fun e=>hn (this.1 e)⟩
 ·rintro ⟨a,b⟩;exact⟨a,fun hn=>b fun e=>hn (this.2 e)⟩
theorem mg.tru (h:mg k x g σ) (hok:k.Ok) (u:Nat->Nat):Hu x (aN x aC) u↔Hu k (aN k aC) fun j=>u (σ j):=by
 constructor
 ·intro ht i hi
  exact(h.fit hok hi u).1 (ht _ (by rw[h.n];exact h.lt i hi))
 ·intro ht q hq
  rw[h.n]at hq
  have:=(h.fit hok (h.gl q hq) u).2 (ht _ (h.gl q hq))
  rwa [h.sg q hq]at this
theorem mg.ac5 (h:mg k x g σ) (hok:k.Ok) {i:Nat} (hi:i<k.n) (u:Nat->Nat) (st:Bool):ac5 x u st (σ i)=Go.Wg.ac5 k (fun j=>u (σ j)) st i:=by
 unfold Go.Wg.ac5
 rw[h.aff hok hi]
 have:=h.afd hok hi
 by_cases c:k.fills i=[]
 ·rw[if_pos c,if_pos (this.2 c)]
 ·rw[if_neg c,if_neg fun e=>c (this.1 e)]
theorem mg.aaw (h:mg k x g σ) (hok:k.Ok) (u:Nat->Nat) (st:Bool):aaw x u st=Go.Wg.aaw k (fun j=>u (σ j)) st:=by
 unfold Go.Wg.aaw
 rw[h.n,h.sum]
 congr 1
 exact List.map_congr_left fun i hi=>h.ac5 hok (List.mem_range.1 hi) u st
theorem mg.back (h:mg k x g σ) (hok:k.Ok) {w:Nat->Nat} (ht:Hu k (aN k aC) w):Hu x (aN x aC) fun q=>w (g q) :=
 (h.tru hok _).2 fun i hi=>(ht i hi).congr (by simp only[h.gs i hi]) fun y hy=>by simp only[h.gs y (gK.1 hy).1]
theorem mg.can (h:mg k x g σ) (hok:k.Ok):can x (aN x aC)=Go.Wg.can k (aN k aC):=by
 rw[Bool.eq_iff_iff,QS (h.ok hok) (gG _ _),QS hok (gG _ _)]
 exact⟨fun⟨u,hu⟩=>⟨_,(h.tru hok u).1 hu⟩,fun⟨w,hw⟩=>⟨_,h.back hok hw⟩⟩
theorem mg.weight (h:mg k x g σ) (hok:k.Ok) {w0:Nat->Nat} (h0:Hu k (aN k aC) w0) {v:Nat} (hv:v<k.n):aO x (aN x aC) (σ v)=aO k (aN k aC) v :=
 (abA (h.ok hok) (by rw[h.n];exact h.lt v hv) (h.back hok h0)).eq (abA hok hv h0) fun y=>⟨fun⟨u,hu,hy⟩=>⟨_,(h.tru hok u).1 hu,hy⟩,fun⟨w,hw,hy⟩=>⟨_,h.back hok hw,by rw[hy];simp only[h.gs v hv]⟩⟩
theorem afg (h:mg k x g σ) (w:Nat->Nat) {j:Nat} (hj:j<k.n) (st:Bool):ac5 k (fun j=>w (g (σ j))) st j=ac5 k w st j:=ab1 st (by simp only[h.gs j hj]) fun y hy=>by simp only[h.gs y (gK.1 hy).1]
theorem mg.loss (h:mg k x g σ) (hok:k.Ok) {w0:Nat->Nat} (h0:Hu k (aN k aC) w0) {v:Nat} (hv:v<k.n):aal x (aN x aC) (σ v)=aal k (aN k aC) v :=
 (ab6 (h.ok hok) (by rw[h.n];exact h.lt v hv) (h.back hok h0)).eq (ab6 hok hv h0) fun y=>⟨fun⟨u,hu,hy⟩=>⟨_,(h.tru hok u).1 hu,by rw[hy,h.ac5 hok hv]⟩,fun⟨w,hw,hy⟩=>⟨_,h.back hok hw,by rw[hy,h.ac5 hok hv,afg h w hv]⟩⟩
theorem mg.total (h:mg k x g σ) (hok:k.Ok) {w0:Nat->Nat} (h0:Hu k (aN k aC) w0) (st:Bool):dW x (aN x aC) st=dW k (aN k aC) st :=
 (abL (h.ok hok) st (h.back hok h0)).eq (abL hok st h0) fun y=>⟨fun ⟨u,hu,hy⟩=>⟨_,(h.tru hok u).1 hu,by rw [hy,h.aaw hok]⟩,fun ⟨w,hw,hy⟩=>⟨_,h.back hok hw,by
  rw[hy,h.aaw hok]
  unfold Go.Wg.aaw
  congr 1
  exact List.map_congr_left fun j hj=>(afg h w (List.mem_range.1 hj) st).symm⟩⟩
theorem aeV:∀ (l m:List Nat),l.Nodup->(∀ y∈l,y∈m)->l.length<=m.length
 | [],m,_,_=>by simp
 |a::l,m,hl,hs=>by
  obtain⟨h1,h2⟩:=List.nodup_cons.1 hl
  have ha:=hs a (by simp)
  have h3:=aeV l (m.erase a) h2 fun y hy=>(List.mem_erase_of_ne (fun e:y=a=>h1 (e ▸ hy))).2 (hs y (by simp[hy]))
  rw[List.length_erase_of_mem ha]at h3
  have:=List.length_pos_of_mem ha
  simp only[List.length_cons]
  omega
theorem afz {l:List Nat} {n:Nat} (hl:l.Nodup) (hs:∀ y∈l,y<n) (hn:n<=l.length) {i:Nat} (hi:i<n):i∈l:=by
 refine Decidable.byContradiction fun h=>?_
 have:=aeV (i::l) (List.range n) (List.nodup_cons.2 ⟨h,hl⟩) fun y hy=>by
  rcases List.mem_cons.1 hy with rfl|hy
  ·exact List.mem_range.2 hi
  ·exact List.mem_range.2 (hs y hy)
 simp only[List.length_cons,List.length_range]at this
 omega
theorem aft {k:Wk} (hok:k.Ok) {l:List Nat} (hn:l.length<k.n):∃ i,i<k.n/\i ∉ l/\((k.v i).from_<0\/(k.v i).from_.toNat∈l):=by
 have hex:∃ i,i<k.n/\i ∉ l:=by
  refine Decidable.byContradiction fun h=>?_
  have:=aeV (List.range k.n) l List.nodup_range fun y hy=>Decidable.byContradiction fun hy'=>h ⟨y,List.mem_range.1 hy,hy'⟩
  rw[List.length_range]at this
  omega
 obtain⟨i,hi,hil⟩:=hex
 induction i using Nat.strongRecOn with
 | ind i ih =>
  by_cases hf:(k.v i).from_<0
  ·exact⟨i,hi,hil,.inl hf⟩
  ·have h2:=(hok.ves i hi).2.1
   by_cases hm:(k.v i).from_.toNat∈l
   ·exact⟨i,hi,hil,.inr hm⟩
   ·exact ih _ (by omega) (by omega) hm
def pos (G:List Nat) (i:Nat):Nat:=G.idxOf i
structure Ord (k:Wk) (G:List Nat):Prop where
 nd:G.Nodup
 lt:∀ i∈G,i<k.n
 up:∀ i∈G,0<=(k.v i).from_->(k.v i).from_.toNat∈G/\pos G (k.v i).from_.toNat<pos G i
def aeL (k:Wk) (G:List Nat):List Int:=(List.range k.n).map fun i=>if i∈G then(pos G i:Int) else -1
def aeQ (k:Wk) (G:List Nat) (i:Nat):Bool:=decide (i ∉ G) && (decide ((k.v i).from_<0) || decide ((k.v i).from_.toNat∈G))
def aeK (k:Wk) (G:List Nat) (m:Nat):List Int:=((List.range m).filter (aeQ k G)).map fun i:Nat=>(i:Int)
def aeO (k:Wk) (G:List Nat):List nN:=G.map fun i=>ae7 (pos G) (k.v i)
theorem aeR (k:Wk) (G:List Nat):(aeL k G).length=k.n:=by simp[aeL]
theorem afj {k:Wk} (G:List Nat) {i:Nat} (hi:i<k.n):(aeL k G).getD i 0=if i∈G then(pos G i:Int) else -1:=by
 simp[aeL,List.getD_eq_getElem?_getD,hi]
theorem afn {k:Wk} (G:List Nat) {i:Nat} (hi:i<k.n):(aeL k G).getD i 0<0↔i ∉ G:=by
 rw[afj G hi]
 by_cases h:i∈G
 ·rw[if_pos h];exact⟨fun h1=>by omega,fun h1=>absurd h h1⟩
 ·rw[if_neg h];exact⟨fun _=>h,fun _=>by decide⟩
theorem aeY {G:List Nat} {i:Nat} (c:Nat) (h:i∈G):pos (G ++ [c]) i=pos G i:=by
 unfold pos
 rw[List.idxOf_append,if_pos h]
theorem afu {G:List Nat} {c:Nat} (h:c ∉ G):pos (G ++ [c]) c=G.length:=by
 unfold pos
 rw[List.idxOf_append,if_neg h]
 simp
theorem afv {k:Wk} {G:List Nat} {c:Nat} (h:c ∉ G):(aeL k G).set c (G.length:Nat)=aeL k (G ++ [c]):=by
 refine List.ext_getElem (by simp[aeL]) fun j h1 h2=>?_
 rw[List.getElem_set]
 simp only[aeL,List.getElem_map,List.getElem_range]
 by_cases e:c=j
 ·subst e
  rw[if_pos rfl,if_pos (by simp),afu h]
 ·rw [if_neg e]
  by_cases hj:j∈G
  ·rw[if_pos hj,if_pos (by simp[hj]),aeY c hj]
  ·rw[if_neg hj,if_neg (by simp[hj];exact fun e'=>e e'.symm)]
theorem afq (k:Wk) (G:List Nat) (m:Nat):aeK k G (m+1)=if aeQ k G m then aeK k G m ++ [(m:Int)] else aeK k G m:=by
 unfold aeK
 rw[List.range_succ,List.filter_append,List.map_append]
 cases h:aeQ k G m
 ·simp[h]
 ·simp[h]
theorem afe (k:Wk) (G:List Nat) (m:Nat):(aeK k G m).length<=m:=by
 unfold aeK
 rw[List.length_map]
 have:=List.length_filter_le (aeQ k G) (List.range m)
 rwa [List.length_range]at this
theorem afB {k:Wk} {G:List Nat} {m:Nat} {y:Nat} (hy:y<(aeK k G m).length):∃ c:Nat,(aeK k G m).getD y 0=(c:Int)/\c<m/\aeQ k G c=true:=by
 have h:(aeK k G m).getD y 0∈aeK k G m:=by
  rw[List.getD_eq_getElem?_getD,List.getElem?_eq_getElem hy]
  exact List.getElem_mem hy
 unfold aeK at h |-
 obtain⟨c,hc,he⟩:=List.mem_map.1 h
 obtain⟨h1,h2⟩:=List.mem_filter.1 hc
 exact⟨c,he.symm,List.mem_range.1 h1,h2⟩
theorem aeN {k:Wk} {G:List Nat} {c:Nat}:aeQ k G c=true↔c ∉ G/\((k.v c).from_<0\/(k.v c).from_.toNat∈G):=by
 simp[aeQ]
theorem Ord.le {k:Wk} {G:List Nat} (h:Ord k G):G.length<=k.n:=by
 have:=aeV G (List.range k.n) h.nd fun y hy=>List.mem_range.2 (h.lt y hy)
 rwa [List.length_range]at this
theorem Ord.free {k:Wk} {G:List Nat} (hok:k.Ok) (hn:G.length<k.n):0<(aeK k G k.n).length:=by
 obtain⟨i,h1,h2,h3⟩:=aft hok hn
 unfold aeK
 refine List.length_pos_iff.2 (List.ne_nil_of_mem (List.mem_map.2 ⟨i,List.mem_filter.2 ⟨List.mem_range.2 h1,aeN.2 ⟨h2,h3⟩⟩,rfl⟩))
theorem Ord.nil (k:Wk):Ord k []:=⟨List.nodup_nil,(fun i h=>nomatch h),fun i h=>nomatch h⟩
theorem Ord.step {k:Wk} {G:List Nat} (h:Ord k G) {c:Nat} (hc:c<k.n) (hf:aeQ k G c=true):Ord k (G ++ [c]):=by
 obtain⟨h1,h2⟩:=aeN.1 hf
 refine⟨?_,fun i hi=>?_,fun i hi h0=>?_⟩
 ·rw [List.nodup_append]
  exact⟨h.nd,by simp,fun a ha b hb=>by
   rw[List.mem_singleton]at hb
   subst hb
   exact fun e=>h1 (e ▸ ha)⟩
 ·rcases List.mem_append.1 hi with hi | hi
  ·exact h.lt i hi
  ·rw[List.mem_singleton]at hi;subst hi;exact hc
 ·rcases List.mem_append.1 hi with hi | hi
  ·obtain ⟨a,b⟩:=h.up i hi h0
   exact⟨by simp[a],by rw[aeY c a,aeY c hi];exact b⟩
  ·rw [List.mem_singleton] at hi
   subst hi
   have h3:(k.v i).from_.toNat∈G:=h2.resolve_left (by omega)
   exact⟨by simp[h3],by rw[aeY i h3,afu h1];exact List.idxOf_lt_length_of_mem h3⟩
theorem afy {k:Wk} {G:List Nat} (h:Ord k G) {c:Nat} (hf:aeQ k G c=true):aeO k (G ++ [c])=aeO k G ++ [ae7 (pos G) (k.v c)]:=by
 obtain⟨h1,h2⟩:=aeN.1 hf
 have e:∀ i,(0<=(k.v i).from_->(k.v i).from_.toNat∈G)->ae7 (pos (G ++ [c])) (k.v i)=ae7 (pos G) (k.v i):=fun i hi=>by
  unfold ae7
  by_cases h0:(k.v i).from_<0
  ·rw[if_pos h0,if_pos h0]
  ·rw[if_neg h0,if_neg h0,aeY c (hi (by omega))]
 unfold aeO
 rw[List.map_append,List.map_cons,List.map_nil,e c fun h0=>h2.resolve_left (by omega)]
 congr 1
 exact List.map_congr_left fun i hi=>e i fun h0=>(h.up i hi h0).1
theorem afl (k:Wk) (G:List Nat):(aeO k G).length=G.length:=by simp[aeO]
def Wk.ord (k:Wk) (G:List Nat):Wk:=⟨aeO k G,k.rdg.map (aeX (pos G))⟩
theorem Ord.all {k:Wk} {G:List Nat} (h:Ord k G) (hn:G.length=k.n) {i:Nat} (hi:i<k.n):i∈G:=afz h.nd h.lt (by omega) hi
theorem Ord.afN {k:Wk} {G:List Nat} (h:Ord k G) (hn:G.length=k.n):mg k (k.ord G) (fun q=>G.getD q 0) (pos G):=by
 have hg:∀ q (hq:q<k.n),G.getD q 0=G[q]'(by omega):=fun q hq=>by
  rw[List.getD_eq_getElem?_getD,List.getElem?_eq_getElem (by omega),Option.getD_some]
 have hN:(k.ord G).n=k.n:=by show(aeO k G).length=_;rw[afl,hn]
 have hlt:∀ i,i<k.n->pos G i<k.n:=fun i hi=>by rw[<- hn];exact List.idxOf_lt_length_of_mem (h.all hn hi)
 have hgs:∀ i,i<k.n->G.getD (pos G i) 0=i:=fun i hi=>by
  rw[hg _ (hlt i hi)]
  exact List.getElem_idxOf _
 refine⟨hN,hlt,fun q hq=>by rw[hg q hq];exact h.lt _ (List.getElem_mem _),fun q hq=>?_,hgs,fun i hi=>?_,rfl,fun i hi h0=>(h.up i (h.all hn hi) h0).2⟩
 ·rw [hg q hq]
  exact List.Nodup.idxOf_getElem h.nd _ _
 ·show (aeO k G).getD (pos G i) default=_
  unfold aeO
  rw[List.getD_eq_getElem?_getD,List.getElem?_map]
  have:=hgs i hi
  rw[List.getD_eq_getElem?_getD]at this
  have hl:=hlt i hi
  rw[List.getElem?_eq_getElem (by omega)]at this |-
  simp only[Option.getD_some,Option.map_some]at this |-
  rw[this]
end Go.Wg
namespace Go.Wg
open Go Go.Mm Go.Proofs.YtjjmefieegcddaaDoor
theorem aeU {k:Wk} (hok:k.Ok) {v:Nat} (hv:v<k.n):iw k (v:Int)=if can k (aN k aC) then(aO k (aN k aC) v,0) else((0,0),9):=by
 unfold iw can
 rw[if_pos (G7 hok [(v:Int)] fun n hn=>by rw[List.mem_singleton]at hn;omega),Int.toNat_natCast]
theorem ae0 {k:Wk} (hok:k.Ok) {v:Nat} (hv:v<k.n):aaG k (v:Int)=if can k (aN k aC) then(aal k (aN k aC) v,0) else((0,0),9):=by
 unfold aaG can
 rw[if_pos (G7 hok [(v:Int)] fun n hn=>by rw[List.mem_singleton]at hn;omega),Int.toNat_natCast]
theorem afw {k x:Wk} {g σ:Nat->Nat} (h:mg k x g σ) (hok:k.Ok):∃ e:Int,(e=0\/e=9)/\(∃ a1 a2,vX k=((a1,a2),e)/\vX x=((a1,a2),e))/\∀ v,v<k.n->∃ a1 a2 c1 c2,iw k (v:Int)=((a1,a2),e)/\iw x ((σ v:Nat):Int)=((a1,a2),e)/\aaG k (v:Int)=((c1,c2),e)/\aaG x ((σ v:Nat):Int)=((c1,c2),e):=by
 have hx:=h.ok hok
 have hc:=h.can hok
 have hs:∀ v,v<k.n->σ v<x.n:=fun v hv=>by rw[h.n];exact h.lt v hv
 cases hcan:can k (aN k aC)with
 |false =>
  rw[hcan]at hc
  refine⟨9,.inr rfl,⟨0,0,?_,?_⟩,fun v hv=>⟨0,0,0,0,?_,?_,?_,?_⟩⟩
  ·rw[acA hok,hcan];rfl
  ·rw[acA hx,hc];rfl
  ·rw[aeU hok hv,hcan];rfl
  ·rw[aeU hx (hs v hv),hc];rfl
  ·rw[ae0 hok hv,hcan];rfl
  ·rw[ae0 hx (hs v hv),hc];rfl
 |true =>
  obtain⟨w0,h0⟩:=(QS hok (gG _ _)).1 hcan
  rw[hcan]at hc
  refine⟨0,.inl rfl,⟨(dW k (aN k aC) false).1,(dW k (aN k aC) false).2,?_,?_⟩,fun v hv=>⟨(aO k (aN k aC) v).1,(aO k (aN k aC) v).2,(aal k (aN k aC) v).1,(aal k (aN k aC) v).2,?_,?_,?_,?_⟩⟩
  ·rw[acA hok,hcan,if_pos rfl]
  ·rw[acA hx,hc,if_pos rfl,h.total hok h0]
  ·rw[aeU hok hv,hcan,if_pos rfl]
  ·rw[aeU hx (hs v hv),hc,if_pos rfl,h.weight hok h0 hv]
  ·rw[ae0 hok hv,hcan,if_pos rfl]
  ·rw[ae0 hx (hs v hv),hc,if_pos rfl,h.loss hok h0 hv]
end Go.Wg
namespace Go.Proofs.YtjjmefieegcddaaDoor
open Go.RowKit Go.Wg Go.Mm Go.Wk
open Go Go.Sr Go.Ph Go.Tm Go.Conc
variable {w w0:World} {V:View}
noncomputable def B13:Code:=match Tryd.f13.body with|some c=>c|none=>.skip
noncomputable def afZ:Code:=match B13 with | .seq _ (.seq _ (.seq _ (.seq _ (.seq _ (.seq _ r)))))=>r|_=>.skip
noncomputable def afo:Code:=match afZ with | .seq _ (.seq _ r)=>r|_=>.skip
noncomputable def afC:Code:=match afo with | .seq _ r=>r|_=>.skip
noncomputable def afO:Code:=match afC with | .seq _ r=>r|_=>.skip
noncomputable def afH:Array Oper:=match afO with | .seq (.region _ o _) _=>o|_=>#[]
noncomputable def afI:Code:=match afO with | .seq _ r=>r|_=>.skip
noncomputable def afF:Array Oper:=match afI with | .seq (.region _ o _) _=>o|_=>#[]
noncomputable def afW:Code:=match afI with | .seq _ r=>r|_=>.skip
noncomputable def afD:Array Oper:=match afW with | .seq (.region _ o _) _=>o|_=>#[]
noncomputable def afP (l:List Nat):List Item:=[.inRegion afH l,.code afI]
noncomputable def afS (l:List Nat):List Item:=[.inRegion afF l,.code afW]
set_option maxRecDepth 40000 in
theorem ae5 {k x:Wk} {g σ:Nat->Nat} {vv rv vv' rv' lv u3:Value} {b4 b8 b37:Nat} (hB:Bs V) (hk:iJ V vv rv k) (hok:k.Ok) (hr4:V.Range b4 0 [vv,rv]) (hx:iJ V vv' rv' x) (hr8:V.Range b8 0 [vv',rv']) (hren:mg k x g σ) (hnum:∀ v,v<k.n->V.Cell b37 v (.int .i64 ((σ v:Nat):Int))) (w:World) (hS:St w0 [] V [] w) (u1 u7 u9 u10 u11 u12 u13 u14 u15 u16 u17 u18 u19 u20 u21 u22 u23 u24 u25 u26 u27 u28 u29 u30 u31 u32 u33 u34 u35 u36 u37 u38 u39 u40 u41 u42 u43 u44 u45 u46 u47 u48 u49 u50 u51 u52 u53 u54 u55 u56 u57 u58 u59 u60 u61 u62 u63 u64 u65 u66 u67 u68 u69 u70 u71 u72 u73 u74 u75 u76 u77 u78 u79 u80 u81 u82 u83 u84 u85 u86 u87 u88 u89 u90 u91 u92 u93 u94 u95 u96 u97 u98 u99 u100 u101 u102 u103 u104 u105 u106 u107 u108 u109 u110 u111 u112 u113 u114 u115 u116 u117 u118 u119 u120 u121 u122 u123 u124 u125 u126 u127 u128 u129 u130 u131 u132 u133 u134 u135 u136 u137 u138 u139 u140 u141 u142 u143 u144 u145 u146 u147 u148 u149 u150 u151 u152 u153 u154 u155 u156 u157 u158 u159 u160 u161 u162 u163 u164 u165 u166 u167 u168 u169 u170 u171 u172 u173 u174 u175 u176 u177 u178 u179 u180 u181 u182 u183 u184 u185 u186 u187 u188 u189 u190 u191 u192 u193 u194 u195 u196 u197 u198 u199 u200 u201 u202 u203 u204 u205 u206 u207 u208 u209 u210 u211 u212 u213 u214 u215 u216 u217 u218 u219 u220 u221:Value) :
  RB 13 (fun r w'=>r=.returned (.bool true)/\Kp w0 w') [.code afC] ⟨#[lv,u1,.bool false,u3,.pointer (some ⟨b4,0,none⟩),.int .i64 (k.n:Int),.slice (some ⟨b37,0,none⟩) k.n k.n,u7,.pointer (some ⟨b8,0,none⟩),u9,u10,u11,u12,u13,u14,u15,u16,u17,u18,u19,u20,u21,u22,u23,u24,u25,u26,u27,u28,u29,u30,u31,u32,u33,u34,u35,u36,u37,u38,u39,u40,u41,u42,u43,u44,u45,u46,u47,u48,u49,u50,u51,u52,u53,u54,u55,u56,u57,u58,u59,u60,u61,u62,u63,u64,u65,u66,u67,u68,u69,u70,u71,u72,u73,u74,u75,u76,u77,u78,u79,u80,u81,u82,u83,u84,u85,u86,u87,u88,u89,u90,u91,u92,u93,u94,u95,u96,u97,u98,u99,u100,u101,u102,u103,u104,u105,u106,u107,u108,u109,u110,u111,u112,u113,u114,u115,u116,u117,u118,u119,u120,u121,u122,u123,u124,u125,u126,u127,u128,u129,u130,u131,u132,u133,u134,u135,u136,u137,u138,u139,u140,u141,u142,u143,u144,u145,u146,u147,u148,u149,u150,u151,u152,u153,u154,u155,u156,u157,u158,u159,u160,u161,u162,u163,u164,u165,u166,u167,u168,u169,u170,u171,u172,u173,u174,u175,u176,u177,u178,u179,u180,u181,u182,u183,u184,u185,u186,u187,u188,u189,u190,u191,u192,u193,u194,u195,u196,u197,u198,u199,u200,u201,u202,u203,u204,u205,u206,u207,u208,u209,u210,u211,u212,u213,u214,u215,u216,u217,u218,u219,u220,u221],[]⟩ w:=by
 obtain⟨e,he,⟨a1,a2,hl1,hl2⟩,hval⟩:=afw hren hok
 have hn6:=hok.le
 have hpos:=hok.pos
 have hr4':([vv,rv]).length=2:=rfl
 have hr8':([vv',rv']).length=2:=rfl
 have hone4:=qB (wO hk.ves) (wO hk.rdg)
 have hone8:=qB (wO hx.ves) (wO hx.rdg)
 clear hren
 replace hval:=aj hval;replace hnum:=aj hnum
 refine abr (tgt:=afP [1,2,3,4,5,6,7]) (by kernel_rfl) rfl hS ?_
 clear hS;intro w' hS
 refine au (aA ?_)
 go_wp2_with (fail)
 go_loopw [16] (fun iv wr=>∃ i:Nat,i<=k.n/\iv=.int .i64 (i:Int)/\St w0 [] V [] wr) (fun iv _=>k.n-(intOf iv).toNat)
 case atStart=>exact⟨0,by omega,rfl,hS.aG⟩
 case round =>
  clear hS
  obtain⟨i,hi,rfl,hS⟩:=hrel
  have h0:(0:Int)<=i:=by omega
  by_cases hlt:i<k.n
  ·have hlt':(i:Int) < k.n:=by omega
   obtain⟨p1,p2,c1,c2,v1,v2,v3,v4⟩:=hval.out i hlt
   have hcell:=hnum.out i hlt
   go_wp2_with (first|(first|((first|((with_reducible refine gL ?_);refine zQ hS rfl rfl rfl ?_)|((with_reducible refine gS ?_);refine bQ hS rfl rfl rfl ?_));refine⟨_,zd,?_⟩;clear hS;(try clear w');refine zF ?_;intro w' hS;(try simp only[sE]at hS))|((with_reducible refine gA ?_);refine aT 17 rfl hS rfl rfl ?_;clear hS;(try clear w');intro b17;refine zF ?_;intro w' hS))|(go_at_call 54;refine oq hS hB hk v1 ?_;clear hS;(try clear w');intro w' hS))
   (refine bF (S:=(St w0 [] V [.blk b17 27 [.int .i64 p1,.int .i64 p2]])) [false,false,false,false,false,false,false,false,false,false,false,false] rfl (by kernel_rfl) ?_;replace hS:=St.eY hS;(repeat' (first|((with_reducible refine gHd ?_);(first|((refine acU 0 rfl (by kernel_rfl) (by kernel_rfl) (by decide +kernel) (fun _ _ _ _ h=>nomatch h.1) rfl (St.aG hS) rfl rfl ?_);refine⟨_,zd,?_⟩;refine zH ?_)|(refine aar 1 rfl (by kernel_rfl) (by kernel_rfl) (by decide +kernel) rfl rfl (fun _ _ _ h=>nomatch h.1) rfl (St.aG hS) ?_;refine zH ?_)|(refine aar 2 rfl (by kernel_rfl) (by kernel_rfl) (by decide +kernel) rfl rfl (fun _ _ _ h=>nomatch h.1) rfl (St.aG hS) ?_;refine zH ?_)|(refine dw 3 rfl (by kernel_rfl) (by kernel_rfl) (by decide +kernel) (fun _ _ _ _ h=>nomatch h.1) rfl (St.aG hS) ?_;refine⟨_,zp,?_⟩;refine zH ?_)|((refine aax 4 rfl (by kernel_rfl) (by kernel_rfl) (by decide +kernel) (fun _ _ _ _ h=>nomatch h.1) rfl (St.aG hS) rfl rfl ?_);refine⟨_,zd,?_⟩;refine zH ?_)|(refine aar 6 rfl (by kernel_rfl) (by kernel_rfl) (by decide +kernel) rfl rfl (fun _ _ _ h=>nomatch h.1) rfl (St.aG hS) ?_;refine zH ?_)|(refine dw 7 rfl (by kernel_rfl) (by kernel_rfl) (by decide +kernel) (fun _ _ _ _ h=>nomatch h.1) rfl (St.aG hS) ?_;refine⟨_,zp,?_⟩;refine zH ?_)|(refine dw 8 rfl (by kernel_rfl) (by kernel_rfl) (by decide +kernel) (fun _ _ _ _ h=>nomatch h.1) rfl (St.aG hS) ?_;refine⟨_,zp,?_⟩;refine zH ?_)|(refine dw 11 rfl (by kernel_rfl) (by kernel_rfl) (by decide +kernel) (fun _ _ _ _ h=>nomatch h.1) rfl (St.aG hS) ?_;refine⟨_,zp,?_⟩;refine zH ?_)|(refine oZ 5 (by decide +kernel) rfl rfl ⟨_,_,zo,?_⟩;refine oq hS hB hx v2 ?_;clear hS;(try clear w');intro w' hS;refine⟨_,rfl,?_⟩;refine zH ?_;refine⟨(St.aG hS),?_⟩)|(refine acW 9 (by decide +kernel) rfl hS rfl  rfl ?_;clear hS;(try clear w');intro b19;refine zH ?_;intro w' hS;refine⟨(St.aG hS),?_⟩)|((refine wQ 10 (by decide +kernel) rfl hS rfl  rfl rfl ?_;refine⟨_,zd,?_⟩);clear hS;(try clear w');refine zH ?_;intro w' hS;(try simp only[sE]at hS);refine⟨(St.aG hS),?_⟩)|refine nP 5 9 (by decide +kernel) ?_ ?_|refine wpAnyH_done (by decide +kernel) ?_ _))|((with_reducible refine gWo ?_);(first|(refine DZ 5 rfl rfl ⟨_,_,zo,?_⟩;refine oq hS hB hx v2 ?_;clear hS;(try clear w');intro w' hS;refine⟨_,rfl,?_⟩;refine zH ?_;refine⟨(St.aG hS),?_⟩)|(refine acZ 9 rfl hS rfl  rfl ?_;clear hS;(try clear w');intro b19;refine zH ?_;intro w' hS;refine⟨(St.aG hS),?_⟩))))))
   all_goals (
    go_wp2_with (first|(first|((first|((with_reducible refine gL ?_);refine zQ hS rfl rfl rfl ?_)|((with_reducible refine gS ?_);refine bQ hS rfl rfl rfl ?_));refine⟨_,zd,?_⟩;clear hS;(try clear w');refine zF ?_;intro w' hS;(try simp only[sE]at hS))|((with_reducible refine gA ?_);refine aT 21 rfl hS rfl rfl ?_;clear hS;(try clear w');intro b21;refine zF ?_;intro w' hS))|(go_at_call 63;refine aav hS hB hk v3 ?_;clear hS;(try clear w');intro w' hS))
    (refine bF (S:=(St w0 [] V [.blk b21 27 [.int .i64 c1,.int .i64 c2],.blk b19 27 [.int .i64 p1,.int .i64 p2],.blk b17 27 [.int .i64 p1,.int .i64 p2]])) [false,false,false,false,false,false,false,false,false,false,false,false] rfl (by kernel_rfl) ?_;replace hS:=St.eY hS;(repeat' (first|((with_reducible refine gHd ?_);(first|((refine acU 0 rfl (by kernel_rfl) (by kernel_rfl) (by decide +kernel) (fun _ _ _ _ h=>nomatch h.1) rfl (St.aG hS) rfl rfl ?_);refine⟨_,zd,?_⟩;refine zH ?_)|(refine aar 1 rfl (by kernel_rfl) (by kernel_rfl) (by decide +kernel) rfl rfl (fun _ _ _ h=>nomatch h.1) rfl (St.aG hS) ?_;refine zH ?_)|(refine aar 2 rfl (by kernel_rfl) (by kernel_rfl) (by decide +kernel) rfl rfl (fun _ _ _ h=>nomatch h.1) rfl (St.aG hS) ?_;refine zH ?_)|(refine dw 3 rfl (by kernel_rfl) (by kernel_rfl) (by decide +kernel) (fun _ _ _ _ h=>nomatch h.1) rfl (St.aG hS) ?_;refine⟨_,zp,?_⟩;refine zH ?_)|((refine aax 4 rfl (by kernel_rfl) (by kernel_rfl) (by decide +kernel) (fun _ _ _ _ h=>nomatch h.1) rfl (St.aG hS) rfl rfl ?_);refine⟨_,zd,?_⟩;refine zH ?_)|(refine aar 6 rfl (by kernel_rfl) (by kernel_rfl) (by decide +kernel) rfl rfl (fun _ _ _ h=>nomatch h.1) rfl (St.aG hS) ?_;refine zH ?_)|(refine dw 7 rfl (by kernel_rfl) (by kernel_rfl) (by decide +kernel) (fun _ _ _ _ h=>nomatch h.1) rfl (St.aG hS) ?_;refine⟨_,zp,?_⟩;refine zH ?_)|(refine dw 8 rfl (by kernel_rfl) (by kernel_rfl) (by decide +kernel) (fun _ _ _ _ h=>nomatch h.1) rfl (St.aG hS) ?_;refine⟨_,zp,?_⟩;refine zH ?_)|(refine dw 11 rfl (by kernel_rfl) (by kernel_rfl) (by decide +kernel) (fun _ _ _ _ h=>nomatch h.1) rfl (St.aG hS) ?_;refine⟨_,zp,?_⟩;refine zH ?_)|(refine oZ 5 (by decide +kernel) rfl rfl ⟨_,_,zo,?_⟩;refine aav hS hB hx v4 ?_;clear hS;(try clear w');intro w' hS;refine⟨_,rfl,?_⟩;refine zH ?_;refine⟨(St.aG hS),?_⟩)|(refine acW 9 (by decide +kernel) rfl hS rfl  rfl ?_;clear hS;(try clear w');intro b23;refine zH ?_;intro w' hS;refine⟨(St.aG hS),?_⟩)|((refine wQ 10 (by decide +kernel) rfl hS rfl  rfl rfl ?_;refine⟨_,zd,?_⟩);clear hS;(try clear w');refine zH ?_;intro w' hS;(try simp only[sE]at hS);refine⟨(St.aG hS),?_⟩)|refine nP 5 9 (by decide +kernel) ?_ ?_|refine wpAnyH_done (by decide +kernel) ?_ _))|((with_reducible refine gWo ?_);(first|(refine DZ 5 rfl rfl ⟨_,_,zo,?_⟩;refine aav hS hB hx v4 ?_;clear hS;(try clear w');intro w' hS;refine⟨_,rfl,?_⟩;refine zH ?_;refine⟨(St.aG hS),?_⟩)|(refine acZ 9 rfl hS rfl  rfl ?_;clear hS;(try clear w');intro b23;refine zH ?_;intro w' hS;refine⟨(St.aG hS),?_⟩))))))
    all_goals (
     go_wp2_with (((with_reducible refine gL ?_);refine lW hS rfl rfl rfl ?_);refine⟨_,zd,?_⟩;clear hS;(try clear w');refine zF ?_;intro w' hS)
     go_roundw
     case rel=>exact⟨i+1,by omega,by go_num,hS.aG⟩
     case measure=>simp only[intOf];omega))
  ·obtain rfl:i=k.n:=by omega
   clear hlt hi
   go_wp2_with (fail)
   refine au (ig (abP 1 (by decide) ?_))
   simp only[List.take_succ_cons,List.take_zero]
   go_wp2_with (((with_reducible refine gL ?_);refine zQ hS rfl rfl rfl ?_);refine⟨_,zd,?_⟩;clear hS;(try clear w');refine zF ?_;intro w' hS)
   refine bG (tgt:=afP [1,2,3,4,5,6,7]) ?_
   refine acB 195 hS hB hk hl1 rfl rfl rfl rfl rfl rfl ?_
   clear hS;(try clear w');intro w' a' hS hp
   simp only[fr]at hp
   subst hp
   refine abr (tgt:=afS [1,2,3,4,5,6,7]) (by kernel_rfl) rfl hS ?_
   clear hS;(try clear w');intro w' hS
   refine abe 2 rfl ?_
   simp only[List.drop_succ_cons,List.drop_zero]
   go_wp2_with (first|(((with_reducible refine gS ?_);refine bQ hS rfl rfl rfl ?_);refine⟨_,zd,?_⟩;clear hS;(try clear w');refine zF ?_;intro w' hS;(try simp only[sE]at hS))|(((with_reducible refine gA ?_);refine dM hS rfl rfl ?_);clear hS;(try clear w');intro _;refine zF ?_;intro w' hS))
   refine dH (au (ig (abP 1 (by decide) ?_)))
   simp only[List.take_succ_cons,List.take_zero]
   go_wp2_with (((with_reducible refine gL ?_);refine zQ hS rfl rfl rfl ?_);refine⟨_,zd,?_⟩;clear hS;(try clear w');refine zF ?_;intro w' hS)
   refine bG (tgt:=afS [1,2,3,4,5,6,7]) ?_
   refine acB 200 hS hB hx hl2 rfl rfl rfl rfl rfl rfl ?_
   clear hS;(try clear w');intro w' a' hS hp
   simp only[fr]at hp
   subst hp
   refine abr (tgt:=[.inRegion afD [17,18,19],.code .ret]) (by kernel_rfl) rfl hS ?_
   clear hS;(try clear w');intro w' hS
   refine abe 2 rfl ?_
   simp only[List.drop_succ_cons,List.drop_zero]
   go_wp2_with (first|(((with_reducible refine gS ?_);refine bQ hS rfl rfl rfl ?_);refine⟨_,zd,?_⟩;clear hS;(try clear w');refine zF ?_;intro w' hS;(try simp only[sE]at hS))|(((with_reducible refine gA ?_);refine dM hS rfl rfl ?_);clear hS;(try clear w');intro _;refine zF ?_;intro w' hS))
   rcases he with rfl|rfl
   all_goals (
    refine dH (au (ig (abP 17 (by decide) ?_)))
    simp only[List.take_succ_cons,List.take_zero]
    go_wp2_with (((with_reducible refine gL ?_);refine lW hS rfl rfl rfl ?_);refine⟨_,zd,?_⟩;clear hS;(try clear w');refine zF ?_;intro w' hS)
    refine bG (tgt:=[.inRegion afD [17,18,19],.code .ret]) ?_
    refine acy 220 hS hB rfl rfl rfl rfl rfl rfl ?_
    clear hS;(try clear w');intro w' a' hS hp
    simp only[fr]at hp
    subst hp
    refine abr (tgt:=[.code .ret]) (by kernel_rfl) rfl hS ?_
    clear hS;(try clear w');intro w' hS
    refine abe 18 rfl ?_
    simp only[List.drop_succ_cons,List.drop_zero]
    go_wp2_with (fail)
    refine dH (bG (tgt:=[.code .ret]) ?_)
    exact ac2 Tryd.func13 hS rfl (fun w=>bH (r1:=.tmp 2) (by kernel_rfl) (bD rfl)))
end Go.Proofs.YtjjmefieegcddaaDoor
