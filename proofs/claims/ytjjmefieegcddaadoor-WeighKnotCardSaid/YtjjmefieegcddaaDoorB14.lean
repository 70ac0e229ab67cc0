/- A part of the proof: T20, V7, T21, T22, W32, W33, W34, T23, W35, W36, W37, W38, W39. -/
import Derived.Test.YtjjmefieegcddaaDoorB13
import Derived.Test.YtjjmefieegcddaaDoorB02
import Derived.Test.YtjjmefieegcddaaDoorB12
import Derived.Test.YtjjmefieegcddaaDoorB07
set_option linter.unusedVariables false
set_option linter.unusedSimpArgs false
namespace Go.Ph
open Go
open Go.Tm
open Go.Sr
open Go.Conc
section
variable {P:Program} {c:Nat} {D0 wr0:Nat→Prop} {vs:List Value} {w:World} {Q:PostC}
theorem ToC.unat {a:Goroutine} {d:Nat} (h:ToC P c D0 wr0 vs a (w.at d) Q):ToC P c D0 wr0 vs a w Q:=by
 have:=h.rely (w':=(w.at d).at w.drawn) (.at _ _ _)
 exact this
theorem toC_step {fr:Frame} {cs:List Frame} (h:∀ w1,RelyW c (orS D0 wr0) w w1→∃ fr' w2 es wr',(∀ main cs',stepG P main (G fr cs') w1=.go (G fr' cs') w2 es)∧(∀ e∈es,EvOk D0 wr' e)∧GuarW wr0 w1 w2∧GrowW wr0 wr' w1 w2∧ToC P c D0 wr' vs (G fr' cs) w2 Q) :
  ToC P c D0 wr0 vs (G fr cs) w Q:=by
 have hwt:WT P c D0 (fun wr fr mine w=>ToC P c D0 wr vs (G fr (mine ++ cs)) w Q) wr0 fr [] w:=by
  refine .step fun w1 hr=>?_
  obtain ⟨fr',w2,es,wr',h1,h2,h3,h4,h5⟩:=h w1 hr
  exact ⟨fr',[],w2,es,wr',fun main cs'=>h1 main cs',h2,h3,h4,.stop fun w3 h6=>h5.rely h6⟩
 exact toC_wt (mine:=[]) (fun wr fr mine w d h=>h.unat) hwt fun _ _ _ _ h=>h
theorem WT.widen {ch:Nat} {D D' wr wr0:Nat→Prop} {Stop:StopW} {fr:Frame} {mine:List Frame} (hD:∀ b,D b→D' b∨wr0 b) (h:WT P ch D Stop wr fr mine w) :
  WT P ch D' (fun wr' fr mine w=>∃ x,wr'=(fun b=>wr0 b∨x b)∧Stop x fr mine w) (fun b=>wr0 b∨wr b) fr mine w:=by
 obtain ⟨τ,h⟩:=h
 have hsub:∀ wr:Nat→Prop,∀ b,orS D wr b→orS D' (fun b=>wr0 b∨wr b) b:=fun wr b hb=>by
  rcases hb with hb | hb
  ·rcases hD b hb with h | h
   ·exact .inl h
   ·exact .inr (.inl h)
  ·exact .inr (.inr hb)
 induction τ generalizing wr fr mine w with
 | leaf=>exact .stop fun w' hr=>⟨wr,rfl,h w' (hr.sub (hsub wr))⟩
 | node f ih =>
  refine .mk fun w' hr=>?_
  rcases h w' (hr.sub (hsub wr)) with h | ⟨fr',mine',w2,es,wr',h1,h2,h3,h4,h5⟩
  ·exact .inl ⟨wr,rfl,h⟩
  ·refine .inr ⟨fr',mine',w2,es,fun b=>wr0 b∨wr' b,h1,fun e he=>?_,?_,?_,ih w' h5⟩
   ·have he:=h2 e he
    obtain ⟨loc,wrt,sy⟩:=e
    unfold EvOk at he ⊢
    cases loc with
    | cell a =>
     refine ⟨he.1,?_⟩
     rcases he.2 with h | ⟨h,hw⟩
     ·exact .inl (.inr h)
     ·rcases hD _ h with h | h
      ·exact .inr ⟨h,hw⟩
      ·exact .inl (.inl h)
    | obj r =>
     refine ⟨he.1,?_⟩
     rcases he.2 with h | h
     ·exact .inl (.inr h)
     ·rcases hD _ h with h | h
      ·exact .inr h
      ·exact .inl (.inl h)
    | mark m=>exact he
    | _=>exact he.elim
   ·exact ⟨h3.size,fun b hb hn=>h3.keep b hb fun h=>hn (.inr h),h3.os,h3.output,h3.tape,h3.okh⟩
   ·refine ⟨fun b hb=>hb.imp id (h4.le b),fun b hb=>?_⟩
    rcases hb with hb | hb
    ·exact .inl (.inl hb)
    ·rcases h4.fresh b hb with h | h
     ·exact .inl (.inr h)
     ·exact .inr h
structure KeptW (ch:Nat) (D wr:Nat→Prop) (w w':World):Prop where
 size:w.heap.size≤w'.heap.size
 keep:∀ b,b < w.heap.size→D b→¬ wr b→SameO ch w w' b
 os:w'.os=w.os
 output:w'.output=w.output
 tape:w'.tape=w.tape
theorem WT.kept {ch:Nat} {D wr:Nat→Prop} {Stop:StopW} {fr:Frame} {mine:List Frame} (h:WT P ch D Stop wr fr mine w) :
  WT P ch D (fun wr' fr mine w'=>Stop wr' fr mine w'∧KeptW ch D wr w w'∧∀ b,wr' b→wr b∨w.heap.size≤b) wr fr mine w:=by
 have key:∀ (w0:World) (wr0:Nat→Prop) (τ:Tr) (wr:Nat→Prop) (fr:Frame) (mine:List Frame) (w:World),WTr P ch D Stop τ wr fr mine w→KeptW ch D wr0 w0 w→(∀ b,wr b→wr0 b∨w0.heap.size≤b) →
   WT P ch D (fun wr' fr mine w'=>Stop wr' fr mine w'∧KeptW ch D wr0 w0 w'∧∀ b,wr' b→wr0 b∨w0.heap.size≤b) wr fr mine w:=by
  intro w0 wr0 τ
  have rl:∀ {wr:Nat→Prop} {w w':World},KeptW ch D wr0 w0 w→RelyW ch (orS D wr) w w'→KeptW ch D wr0 w0 w':=fun hk hr =>
   ⟨Nat.le_trans hk.size hr.size,fun b hb hD hw=>(hk.keep b hb hD hw).trans (hr.keep b (.inl hD)),hr.os.trans hk.os,hr.output.trans hk.output,hr.tape.trans hk.tape⟩
  induction τ with
  | leaf=>exact fun wr fr mine w h hk hf=>.stop fun w' hr=>⟨h w' hr,rl hk hr,hf⟩
  | node f ih =>
   intro wr fr mine w h hk hf
   refine .mk fun w' hr=>?_
   have hk':=rl hk hr
   rcases h w' hr with h | ⟨fr',mine',w2,es,wr',h1,h2,h3,h4,h5⟩
   ·exact .inl ⟨h,hk',hf⟩
   ·refine .inr ⟨fr',mine',w2,es,wr',h1,h2,h3,h4,ih w' wr' fr' mine' w2 h5 ⟨Nat.le_trans hk'.size h3.size,fun b hb hD hw=>(hk'.keep b hb hD hw).trans (.inl (h3.keep b (Nat.lt_of_lt_of_le hb hk'.size) fun h=>?_)),h3.os.trans hk'.os,h3.output.trans hk'.output,h3.tape.trans hk'.tape⟩ fun b hb=>?_⟩
    ·rcases hf b h with h | h
     ·exact hw h
     ·omega
    ·rcases h4.fresh b hb with h | h
     ·exact hf b h
     ·exact .inr (Nat.le_trans hk'.size h.1)
 obtain ⟨τ,h⟩:=h
 exact key w wr τ wr fr mine w h ⟨Nat.le_refl _,fun b _ _ _=>.refl w b,rfl,rfl,rfl⟩ fun b hb=>.inl hb
theorem toC_ok {a:Goroutine} (h:∀ w1,RelyW c (orS D0 wr0) w w1→HeapOk OC w1→(∃ k,w1.heap[c]? = some (.chan 0 #[] false k k false))→ToC P c D0 wr0 vs a w1 Q):ToC P c D0 wr0 vs a w Q:=by
 intro s gs sl t w1 hr hp
 exact h w1 hr hp.heap hp.chan s gs sl t w1 (.refl _ w1) hp
theorem frz_rel2 [Fns] {N:Nat} {DD WW:List Nat} (hN:∀ b∈DD ++ WW,N≤b) (hlt:N≤w.heap.size) (hdis:∀ b∈WW,b ∉ DD)
  (hobj:∀ b∈DD,(∃ c t,w.heap[b]? = some (.cells c t (0,0))∧∀ v∈c,VR1 (idR (DD ++ WW)) v v)∨∃ o,w.heap[b]? = some o∧isCh o=true)
  (hobjW:∀ b∈WW,∃ c t,w.heap[b]? = some (.cells c t (0,0))∧∀ v∈c,VR1 (idR (DD ++ WW)) v v):WR N (idR (DD ++ WW)) (inL DD) (frzW DD w) w:=by
 refine ⟨?_,?_,?_,?_,?_,rfl,rfl,?_,by rw [frzW_size];exact hlt,hlt⟩
 ·rintro x b ⟨h,hb⟩
  subst h
  by_cases hd:b∈DD
  ·rcases hobj _ hd with ⟨c,t,h1,h2⟩ | ⟨o,h1,h2⟩
   ·refine ⟨.cells c t (0,c.size),.cells c t (0,0),?_,h1,.inl ⟨c,c,t,(0,c.size),(0,0),rfl,rfl,⟨rfl,fun i v hv=>⟨v,hv,h2 v (Array.mem_of_getElem? hv)⟩⟩,fun _=>rfl,fun h=>(h hd).elim⟩⟩
    rw [frzW_get,h1]
    simp [hd,frzO]
   ·refine ⟨o,o,?_,h1,.inr (.inr ⟨hd,h2,h2⟩)⟩
    rw [frzW_get,h1]
    cases o <;> first | (cases h2;done) | (simp only [Option.map_some];split <;> rfl)
  ·have hw:b∈WW:=(List.mem_append.1 hb).resolve_left hd
   obtain ⟨c,t,h1,h2⟩:=hobjW _ hw
   refine ⟨.cells c t (0,0),.cells c t (0,0),?_,h1,.inl ⟨c,c,t,(0,0),(0,0),rfl,rfl,⟨rfl,fun i v hv=>⟨v,hv,h2 v (Array.mem_of_getElem? hv)⟩⟩,fun h=>(hd h).elim,fun _=>⟨rfl,rfl⟩⟩⟩
   rw [frzW_get,h1]
   simp [hd]
 ·rintro b b1 b2 ⟨rfl,_⟩ ⟨rfl,_⟩
  rfl
 ·rintro b1 b2 b ⟨h1,_⟩ ⟨h2,_⟩
  exact h1.symm.trans h2
 ·rintro b b' ⟨rfl,_⟩ _
  rfl
 ·rintro b b' ⟨rfl,h⟩
  exact ⟨hN _ h,hN _ h⟩
 ·intro b hb
  rw [frzW_size]
  rcases hobj b hb with ⟨c,t,h1,_⟩ | ⟨o,h1,_⟩ <;> exact (Array.getElem?_eq_some_iff.1 h1).1
theorem own_idR2 {DD WW:List Nat} (hdis:∀ b∈WW,b ∉ DD):own (inL DD) (idR (DD ++ WW))=inL WW:=by
 funext b
 refine propext ⟨fun ⟨x,⟨h1,h2⟩,h3⟩=>?_,fun h=>⟨b,⟨rfl,List.mem_append_right _ h⟩,hdis b h⟩⟩
 subst h1
 exact (List.mem_append.1 h2).resolve_left h3
structure Seg [Fns] (P:Program) (D0 wr0:Nat→Prop) (DD WW:List Nat) (w:World):Prop where
 rd:∀ b∈DD,D0 b∨wr0 b
 wr:∀ b∈WW,wr0 b
 dis:∀ b∈WW,b ∉ DD
 ge:∀ b∈DD ++ WW,P.globals.size≤b
 lt:P.globals.size≤w.heap.size
 obj:∀ b∈DD,(∃ c t,w.heap[b]? = some (.cells c t (0,0))∧∀ v∈c,VR1 (idR (DD ++ WW)) v v)∨∃ o,w.heap[b]? = some o∧isCh o=true
 objW:∀ b∈WW,∃ c t,w.heap[b]? = some (.cells c t (0,0))∧∀ v∈c,VR1 (idR (DD ++ WW)) v v
theorem toC_lone [Fns] (hC:SokC P) (hS:Sok P fun _=>True) {DD WW:List Nat} (hg:Seg P D0 wr0 DD WW w) (hh:HeapOk OC w)
  {f0:FuncId} {b:Frame} {a:Act} {todo:List Item} {cs:List Frame} (hst:Stk f0 (b.at a todo) []) (hsr:FrR P (idR (DD ++ WW)) (b.at a todo) (b.at a todo))
  {S:Act→List Item→World→Prop} (hS':∀ a t w τ d,S a t w→S a t (w.re τ d))
  (hrun:∀ τ d,∃ a' todo' w',S a' todo' w'∧Steps P (lone (b.at a todo) [floor P] ((frzW DD w).re τ d)) (lone (b.at a' todo') [floor P] w'))
  (hk:∀ R' a' a2 todo' wl w2,S a' todo' wl→le (idR (DD ++ WW)) R'→AF (VR R') a'.tmps a2.tmps→a2.defers=[]→WR P.globals.size R' (inL DD) wl w2→KeptW c D0 wr0 w w2→(∀ b,own (inL DD) R' b→wr0 b∨w.heap.size≤b)→HeapOk OC wl →
   ToC P c D0 (fun b=>wr0 b∨own (inL DD) R' b) vs (G (b.at a2 todo') cs) w2 Q) :
  ToC P c D0 wr0 vs (G (b.at a todo) cs) w Q:=by
 have hrel:=frz_rel2 (w:=w) hg.ge hg.lt hg.dis hg.obj hg.objW
 let Stop:Frame→List Frame→World→Prop:=fun fr mine w=>mine=[]∧∃ a' todo',fr=b.at a' todo'∧S a' todo' w
 have hwt:=wt_of_lone (P:=P) (K:=.normal) (ch:=c) (D:=inL DD) (R:=idR (DD ++ WW)) (f0:=f0) (Stop:=Stop) hC hS (fun fr mine w τ d _ h=>by obtain ⟨h1,a',t',h2,h3⟩:=h;exact ⟨h1,a',t',h2,hS' _ _ _ _ _ h3⟩)
  (fun fr mine w h=>by obtain ⟨_,a',t',rfl,_⟩:=h;exact .inl rfl) (mine:=[]) (minea:=[]) hst ⟨hsr,hst.2.2.1⟩ hrel (frz_heapOk hh) (fun τ d=>by
   obtain ⟨a',t',w',h1,h2⟩:=hrun τ d
   exact ⟨_,[],w',⟨rfl,a',t',rfl,h1⟩,h2⟩)
 rw [own_idR2 hg.dis] at hwt
 have hwd:=hwt.widen (D':=D0) (wr0:=wr0) hg.rd
 have e0:(fun b=>wr0 b∨inL WW b)=wr0:=by
  funext b
  exact propext ⟨fun h=>h.elim id (hg.wr b),.inl⟩
 rw [e0] at hwd
 have hwd2:WT P c D0 (fun wr fr mine w=>ToC P c D0 wr vs (G fr (mine ++ cs)) w Q) wr0 (b.at a todo) [] w:=by
  refine hwd.kept.mono fun wr fr mine w2 ⟨⟨x,hx,R',frl,minel,wl,hxo,hle,⟨hm,a',t',hfrl,hs⟩,hhl,hstk,hw2⟩,hkept,hfrs⟩=>?_
  subst hm
  cases mine with
  | cons y m=>exact hstk.elim
  | nil =>
   have hF:FrR P R' frl fr:=hstk.1
   have hfr:fr=b.at ⟨fr.tmps,[]⟩ t':=by
    have h1:=hF.defers'
    have h2:=hF.round'
    have h3:=hF.fn
    have h4:=hF.todo
    have h5:=hF.mode
    have h6:fr.kind=b.kind:=hstk.2.trans hst.2.2.1.symm
    subst hfrl
    cases fr
    simp_all [Frame.at]
   rw [hfr,hx,hxo]
   have hT:=hF.tmps
   rw [hfrl] at hT
   exact hk R' a' ⟨fr.tmps,[]⟩ t' wl w2 hs hle hT rfl hw2 hkept (fun b hb=>hfrs b (by rw [hx,hxo];exact .inr hb)) hhl
 exact toC_wt (mine:=[]) (fun wr fr mine w d h=>h.unat) hwd2 fun _ _ _ _ h=>h
end
def allGo (m:Region.Mode) (ops:Array Oper):Nat→Array Bool→List Nat→List (List Nat)
 | 0,_,acc=>[acc.reverse]
 | fuel+1,listed,acc =>
  let rs:=(List.range ops.size).filter fun i=>!listed.getD i true && ((ops[i]?).map (·.after.all fun e=>!Region.binds m e || listed.getD e.on false)).getD false
  if rs.isEmpty then [acc.reverse] else rs.flatMap fun i=>allGo m ops fuel (listed.setIfInBounds i true) (i :: acc)
theorem go_mem (m:Region.Mode) (ops:Array Oper):∀ (fuel t:Nat) (listed:Array Bool) (acc:List Nat),Region.linearise.go m ops fuel t listed acc∈allGo m ops fuel listed acc
 | 0,_,_,_=>by simp [Region.linearise.go,allGo]
 | fuel+1,t,listed,acc=>by
  unfold Region.linearise.go allGo
  generalize ((List.range ops.size).filter fun i=>!listed.getD i true && ((ops[i]?).map (·.after.all fun e=>!Region.binds m e || listed.getD e.on false)).getD false)=rs
  dsimp only
  cases h:rs[t % rs.length]? with
  | none =>
   have:rs.isEmpty=true:=by
    rw [List.isEmpty_iff]
    rcases Nat.eq_zero_or_pos rs.length with h0 | h0
    ·exact List.length_eq_zero_iff.1 h0
    ·rw [List.getElem?_eq_getElem (Nat.mod_lt t h0)] at h
     cases h
   simp [this]
  | some i =>
   have hm:=List.mem_of_getElem? h
   have:rs.isEmpty=false:=by
    cases rs with
    | nil=>cases hm
    | cons=>rfl
   simp only [this,Bool.false_eq_true,if_false,List.mem_flatMap]
   exact ⟨i,hm,go_mem m ops fuel _ _ _⟩
def orders (ops:Array Oper):List (List Nat):=allGo .any ops ops.size (Array.replicate ops.size false) []
theorem schedule_mem (ops:Array Oper) (t:Nat):Region.schedule true ops t∈orders ops:=by
 have:Region.schedule true ops t=Region.linearise.go .any ops ops.size t (Array.replicate ops.size false) []:=by simp [Region.schedule,Region.linearise]
 rw [this]
 exact go_mem _ _ _ _ _ _
end Go.Ph
namespace Go.Tm
open Go
open Go.Conc
section
variable {P:Program}
theorem callsB_of_calls (hS:Sok P fun _=>True) {f:FuncId} {args:Array Value} {R:Ending→World→Prop} (hins:Ins R) (hout:∀ w,¬ R .outgrown w) {w:World} (hw:HeapOk OC w)
  (h:∀ τ d,Calls P f args (w.re τ d) R):CallsB P f args w R:=by
 intro cs
 let Stop:Frame→List Frame→World→Prop:=fun fr mine w=>mine=[]∧∃ e,R e w∧e≠.outgrown∧fr.fn=f∧fr.leaving P w e
 have hterm:Term P (SH f Stop) (Frame.enter P f args .normal) [] w:=by
  refine term_of_plain hS ?_ (stk_enter hS trivial args) hw ?_
  ·rintro fr mine w τ d hw ⟨rfl,e,h1,h2,h3,h4⟩
   exact ⟨rfl,e,hins _ _ _ _ h1,h2,h3,leaving_re hw h4 τ d⟩
  ·intro τ d
   obtain ⟨e,w',fr',h1,h2,h3,h4⟩:=h τ d [floor P]
   cases e with
   | outgrown=>exact (hout _ h1).elim
   | returned v=>exact ⟨fr',[],w',⟨rfl,_,h1,by simp,h3,h4⟩,h2⟩
   | panicked chain=>exact ⟨fr',[],w',⟨rfl,_,h1,by simp,h3,h4⟩,h2⟩
 have:=toB_of_term (fun fr mine w d h=>by
  obtain ⟨⟨rfl,e,h1,h2,h3,h4⟩,h5,h6⟩:=h
  exact ⟨⟨rfl,e,hins _ _ w.tape d h1,h2,h3,leaving_re h5 h4 w.tape d⟩,h5,h6⟩) hterm cs
 refine this.mono fun a' w' ⟨fr',mine',h1,⟨h2,e,h3,h4,h5,h6⟩,h7,h8⟩=>?_
 subst h2
 exact ⟨e,fr',h1,h3,h5,h6,h4,h7⟩
section
variable {b:Frame} {a:Act} {k:List Item} {cs:List Frame} {w:World} {Q:Goroutine→World→Prop}
end
end
end Go.Tm
namespace Go.Tm
open Go
open Go.Conc
variable {P:Program}
def Rch (P:Program) (tgt:List Item) (S:Act→World→Prop) (todo:List Item) (a:Act) (w:World):Prop :=
 ∀ (b:Frame) (cs:List Frame),b.kind=.normal→∃ a' w',S a' w'∧Steps P (lone (b.at a todo) cs w) (lone (b.at a' tgt) cs w')
section
variable {tgt k:List Item} {S:Act→World→Prop} {a:Act} {w:World}
theorem rch_here (h:S a w):Rch P tgt S tgt a w:=fun _ _ _=>⟨a,w,h,.refl _ _⟩
theorem rch_move {todo todo':List Item} {a':Act} {w':World} (hs:∀ (b:Frame) (cs:List Frame),b.kind=.normal→∃ es,stepG P true (G (b.at a todo) cs) w=.go (G (b.at a' todo') cs) w' es) (h:Rch P tgt S todo' a' w'):Rch P tgt S todo a w:=by
 intro b cs hb
 obtain ⟨es,he⟩:=hs b cs hb
 obtain ⟨a2,w2,h1,h2⟩:=h b cs hb
 exact ⟨a2,w2,h1,.head (step_go he) h2⟩
theorem rch_seq {x y:Code} (h:Rch P tgt S (.code x :: .code y :: k) a w):Rch P tgt S (.code (.seq x y) :: k) a w:=rch_move (fun _ _ _=>⟨_,stepG_seq⟩) h
theorem rch_block {id:Nat} {x:Code} (h:Rch P tgt S (.code x :: .inBlock id :: k) a w):Rch P tgt S (.code (.block id x) :: k) a w:=rch_move (fun _ _ _=>⟨_,stepG_block⟩) h
theorem rch_inBlock {id:Nat} (h:Rch P tgt S k a w):Rch P tgt S (.inBlock id :: k) a w:=rch_move (fun _ _ _=>⟨_,stepG_inBlock⟩) h
theorem rch_loop {x:Code} (h:Rch P tgt S (.code x :: .inLoop x :: k) a w):Rch P tgt S (.code (.loop x) :: k) a w:=rch_move (fun _ _ _=>⟨_,stepG_loop⟩) h
theorem rch_inLoop {x:Code} (h:Rch P tgt S (.code x :: .inLoop x :: k) a w):Rch P tgt S (.inLoop x :: k) a w:=rch_move (fun _ _ _=>⟨_,stepG_inLoop⟩) h
theorem rch_skip (h:Rch P tgt S k a w):Rch P tgt S (.code .skip :: k) a w:=rch_move (fun _ _ _=>⟨_,stepG_skip⟩) h
theorem rch_cond {o:Operand} {x y:Code} {t:Bool} (hc:a.eval o=.bool t) (h:Rch P tgt S (.code (if t then x else y) :: k) a w):Rch P tgt S (.code (.cond o x y) :: k) a w:=rch_move (fun _ _ _=>⟨_,stepG_cond hc⟩) h
theorem rch_exit {id:Nat} {k':List Item} (hk:exitTo id k=some k') (h:Rch P tgt S k' a w):Rch P tgt S (.code (.exit id) :: k) a w:=rch_move (fun _ _ _=>⟨_,stepG_exit hk⟩) h
theorem rch_region {id:Nat} {ops:Array Oper} (h:Rch P tgt S (.inRegion ops (List.range ops.size) :: k) a w):Rch P tgt S (.code (.region id ops false) :: k) a w:=rch_move (fun _ _ _=>⟨_,stepG_region⟩) h
theorem rch_region_end {ops:Array Oper} (h:Rch P tgt S k a w):Rch P tgt S (.inRegion ops [] :: k) a w:=rch_move (fun _ _ _=>⟨_,stepG_region_end⟩) h
theorem rch_op {ops:Array Oper} {i:Nat} {rest:List Nat} {o:Oper} {v:Value} {w':World} (ho:ops[i]? = some o) (hw:Region.wanted o (yielded ops a.tmps)=true) (hr:(execOp a.eval o).run P w=.ok (.value v) w')
  (h:Rch P tgt S (.inRegion ops rest :: k) (a.put o.dst v) w'):Rch P tgt S (.inRegion ops (i :: rest) :: k) a w :=
 rch_move (fun _ _ hb=>⟨_,stepG_value ho hw (by simp [Frame.at,hb]) hr⟩) h
theorem rch_op0 {ops:Array Oper} {i:Nat} {rest:List Nat} {o:Oper} {w':World} (ho:ops[i]? = some o) (hw:Region.wanted o (yielded ops a.tmps)=true) (hr:(execOp a.eval o).run P w=.ok .skip w')
  (h:Rch P tgt S (.inRegion ops rest :: k) (a.put o.dst undef) w'):Rch P tgt S (.inRegion ops (i :: rest) :: k) a w :=
 rch_move (fun _ _ hb=>⟨_,stepG_none ho hw (by simp [Frame.at,hb]) hr⟩) h
theorem rch_code {x:Code} (h:x.wp P (fun e a' w'=>e=.normal∧Rch P tgt S k a' w') a w):Rch P tgt S (.code x :: k) a w:=by
 intro b cs hb
 obtain ⟨e,a1,w1,⟨rfl,hR⟩,harr⟩:=h b k cs
 obtain ⟨a',w',hs,hst⟩:=hR b cs hb
 exact ⟨a',w',hs,Steps.trans harr hst⟩
theorem rch_call {ops:Array Oper} {i:Nat} {rest:List Nat} {o:Oper} {f:FuncId} {args:Array Value} {w':World} (ho:ops[i]? = some o) (hw:Region.wanted o (yielded ops a.tmps)=true) (hr:(execOp a.eval o).run P w=.ok (.enter f args) w')
  (h:Calls P f args w' fun e w''=>∃ v,e=.returned v∧Rch P tgt S (.inRegion ops rest :: k) (a.put o.dst v) w''):Rch P tgt S (.inRegion ops (i :: rest) :: k) a w:=by
 intro b cs hb
 obtain ⟨e,w2,fr,⟨v,rfl,hR⟩,hst,hfn,hm,hd,hk,fn,hf,hrs⟩:=h (b.at a (.inRegion ops (i :: rest) :: k) :: cs)
 obtain ⟨a',w3,hs,hst2⟩:=hR b cs hb
 refine ⟨a',w3,hs,.head (step_go (stepG_enter ho hw (by simp [hb]) hr)) (Steps.trans hst (.head (step_go (es:=seen P fr.fn ((results fn fr.tmps).events P w2 #[])) ?_) hst2))⟩
 have hu:stepG P true (G fr (b.at a (.inRegion ops (i :: rest) :: k) :: cs)) w2=unwind P true fr (b.at a (.inRegion ops (i :: rest) :: k) :: cs) none w2:=by simp only [stepG,G,hm]
 have hfin:(b.at a (.inRegion ops (i :: rest) :: k)).finish v=b.at (a.put o.dst v) (.inRegion ops rest :: k):=by rw [Frame.finish_at,ho];rfl
 rw [hu]
 simp only [unwind,hd,hm,hf,Sem.runT_eq,hrs,doReturn,hk,GStep.after,Array.append_empty,G,hfin]
theorem Rch.mono {S':Act→World→Prop} {todo:List Item} (h:Rch P tgt S todo a w) (hs:∀ a w,S a w→S' a w):Rch P tgt S' todo a w:=fun b cs hb=>by
 obtain ⟨a',w',h1,h2⟩:=h b cs hb
 exact ⟨a',w',hs _ _ h1,h2⟩
end
theorem toB_lone (hS:Sok P fun _=>True) {f0:FuncId} {b:Frame} {a:Act} {todo tgt:List Item} {cs:List Frame} {w:World} {Q:Goroutine→World→Prop} (hst:Stk f0 (b.at a todo) []) (hw:HeapOk OC w)
  {S:Act→World→Prop} (hS':∀ a w τ d,S a w→S a (w.re τ d)) (hrun:∀ τ d,Rch P tgt S todo a (w.re τ d))
  (hk:∀ a' w',S a' w'→HeapOk OC w'→FrOk (b.at a' tgt)→ToB P (G (b.at a' tgt) cs) w' Q):ToB P (G (b.at a todo) cs) w Q:=by
 let Stop:Frame→List Frame→World→Prop:=fun fr mine w=>mine=[]∧∃ a',fr=b.at a' tgt∧S a' w
 have hterm:Term P (SH f0 Stop) (b.at a todo) [] w:=by
  refine term_of_plain hS ?_ hst hw ?_
  ·rintro fr mine w τ d hw ⟨rfl,a',h1,h2⟩
   exact ⟨rfl,a',h1,hS' _ _ _ _ h2⟩
  ·intro τ d
   obtain ⟨a',w',h1,h2⟩:=hrun τ d b [floor P] hst.2.2.1
   exact ⟨_,[],w',⟨rfl,a',rfl,h1⟩,h2⟩
 have hB:=toB_of_term (fun fr mine w d h=>by
  obtain ⟨⟨rfl,a',h1,h2⟩,h5,h6⟩:=h
  exact ⟨⟨rfl,a',h1,hS' _ _ w.tape d h2⟩,h5,h6⟩) hterm cs
 refine hB.bind fun a1 w1 ⟨fr',mine',h1,⟨h2,a',h3,h4⟩,h5,h6⟩=>?_
 subst h2
 subst h1
 subst h3
 exact hk a' w1 h4 h5 h6.ok
end Go.Tm
namespace Go.Ph
open Go
open Go.Tm
open Go.Sr
open Go.Conc
inductive Fix (DD:List Nat):Value→Prop
 | flat {v:Value}:Sr.flat v=true→Fix DD v
 | ptr {a:Addr}:a.block∈DD→Fix DD (.pointer (some a))
 | slice {a:Addr} {l c:Nat}:a.block∈DD→Fix DD (.slice (some a) l c)
 | chan {r:Nat}:r∈DD→Fix DD (.chan (some r))
 | agg {c:Array Value}:(∀ v∈c,Sr.flat v=true)→Fix DD (.agg c)
section
variable {P:Program} {DD DD':List Nat} {R:BR}
theorem vr1_flat [Fns] {u u':Value} (hu:Sr.flat u=true) (h:VR1 R u u'):u'=u:=by
 cases h with
 | base h =>
  cases h with
  | flat _=>rfl
  | ptr _=>cases hu
  | slice _=>cases hu
  | chan _=>cases hu
 | func _ _ _ _ _=>cases hu
theorem vr_fix [Fns] (hR:∀ b∈DD,∀ b',R b b'→b'=b) {v v':Value} (h:Fix DD v) (hv:VR R v v'):v'=v:=by
 cases h with
 | flat hf =>
  cases hv with
  | base h1=>exact vr1_flat hf h1
  | agg _ _=>cases hf
 | ptr hb =>
  cases hv with
  | base h1 =>
   cases h1 with
   | base h0 =>
    cases h0 with
    | flat h=>cases h
    | ptr h =>
     obtain ⟨e1,e2,e3⟩:=h
     have:=hR _ hb _ e1
     rename_i a a'
     cases a
     cases a'
     simp_all
 | slice hb =>
  cases hv with
  | base h1 =>
   cases h1 with
   | base h0 =>
    cases h0 with
    | flat h=>cases h
    | slice h =>
     obtain ⟨e1,e2,e3⟩:=h
     have:=hR _ hb _ e1
     rename_i a _ _ a'
     cases a
     cases a'
     simp_all
 | chan hb =>
  cases hv with
  | base h1 =>
   cases h1 with
   | base h0 =>
    cases h0 with
    | flat h=>cases h
    | chan h=>rw [hR _ hb _ h]
 | agg hc =>
  cases hv with
  | base h1 =>
   cases h1 with
   | base h0 =>
    cases h0 with
    | flat h=>cases h
  | agg hsz h =>
   congr 1
   apply Array.ext hsz
   intro i h1 h2
   exact vr1_flat (hc _ (Array.getElem_mem h2)) (h i _ _ (Array.getElem?_eq_getElem h2) (Array.getElem?_eq_getElem h1))
theorem fix_self [Fns] {v:Value} (h:Fix DD v):VR (idR DD) v v:=by
 cases h with
 | flat hf=>exact .of_flat hf
 | ptr hb=>exact .base (.base (.ptr ⟨⟨rfl,hb⟩,rfl,rfl⟩))
 | slice hb=>exact .base (.base (.slice ⟨⟨rfl,hb⟩,rfl,rfl⟩))
 | chan hb=>exact .base (.base (.chan ⟨rfl,hb⟩))
 | agg hc=>exact .ofAgg ⟨rfl,fun i v hv=>⟨v,hv,.base (.flat (hc v (Array.mem_of_getElem? hv)))⟩⟩
theorem Fix.mono (h:∀ b∈DD,b∈DD') {v:Value} (x:Fix DD v):Fix DD' v:=by
 cases x with
 | flat hf=>exact .flat hf
 | ptr hb=>exact .ptr (h _ hb)
 | slice hb=>exact .slice (h _ hb)
 | chan hb=>exact .chan (h _ hb)
 | agg hc=>exact .agg hc
theorem af_fix [Fns] (hR:∀ b∈DD,∀ b',R b b'→b'=b) {t t':Array Value} (h:AF (VR R) t t') {j:Nat} {v:Value} (hj:t[j]? = some v) (hv:Fix DD v):t'[j]? = some v:=by
 obtain ⟨v',h1,h2⟩:=h.2 j v hj
 rw [vr_fix hR hv h2] at h1
 exact h1
theorem keep_id [Fns] {N:Nat} {D:Nat→Prop} {wl wa:World} (hw:WR N R D wl wa) (hle:le (idR DD) R):∀ b∈DD,∀ b',R b b'→b'=b:=fun b hb b' h=>hw.fn b b' b h (hle _ _ ⟨rfl,hb⟩)
theorem frR_self [Fns] {b:Frame} {a:Act} {todo:List Item} (hd:a.defers=[]) (hs:∀ v∈a.tmps,VR (idR DD) v v) (hi:∀ x∈todo,ItemW P x) (hk:b.kind=.normal) (hr:∀ fn,P.funcs[b.fn]? = some fn→fn.results.size≤1):FrR P (idR DD) (b.at a todo) (b.at a todo) :=
 ⟨rfl,⟨rfl,fun i v hv=>⟨v,hv,hs v (Array.mem_of_getElem? hv)⟩⟩,rfl,hi,hd,hd,rfl,.inl rfl,.inl hk,.inl hk,rfl,rfl,hr⟩
theorem new_block [Fns] {N:Nat} {D:Nat→Prop} {wl wa:World} (hw:WR N R D wl wa) {b b':Nat} (h:R b b') (hD:¬ D b) {c:Array Value} {t:TypeId} {f:Nat × Nat} (hb:wl.heap[b]? = some (.cells c t f)) :
  ∃ c',wa.heap[b']? = some (.cells c' t (0,0))∧AF (VR1 R) c c':=by
 obtain ⟨o,o',h1,h2,h3⟩:=hw.obj b b' h
 rw [hb] at h1
 cases h1
 rcases h3 with ⟨c1,c',e,f1,f',e1,rfl,h4,_,h5⟩ | ⟨a,a',l,e1,_⟩ | ⟨h4,_⟩
 ·cases e1
  obtain ⟨_,rfl⟩:=h5 hD
  exact ⟨c',h2,h4⟩
 ·cases e1
 ·exact (hD h4).elim
theorem af1_fix [Fns] (hR:∀ b∈DD,∀ b',R b b'→b'=b) {c c':Array Value} (h:AF (VR1 R) c c') (hc:∀ v∈c,Fix DD v):c'=c:=by
 apply Array.ext h.1
 intro i h1 h2
 exact vr_fix hR (hc _ (Array.getElem_mem h2)) (.base (h.raw i _ _ (Array.getElem?_eq_getElem h2) (Array.getElem?_eq_getElem h1)))
end
end Go.Ph
namespace Go.Proofs.YtjjmefieegcddaaDoor
open Go.RowKit Go.Wg Go.Mm Go.Wk
open Go Go.Sr Go.Ph Go.Tm Go.Conc
variable {w:World} {V:View}
noncomputable def B97:Code:=match Tryd.f97.body with | some c=>c | none=>.skip
noncomputable def L1:Code:=match Tryd.f97.body with | some (.seq _ (.seq _ (.seq _ (.seq (.seq _ (.block _ (.loop l))) _))))=>l | _=>.skip
noncomputable def K8:Code:=match Tryd.f97.body with | some (.seq _ (.seq _ (.seq _ (.seq _ r))))=>r | _=>.skip
def tm1 (p:Nat) (s:SS) (st:Bool) (b4 b5 b6 b7 c:Nat) (sl:Value) (n i:Nat) (x10 x18 x19 x20 x21 x22:Value):Array Value :=
 #[ptr p,.agg (stC s).toArray,.bool st,undef,ptr b4,ptr b5,ptr b6,ptr b7,sl,undef,x10,undef,.chan (some c),ptr p,sl,sl,.int .i64 n,.int .i64 i,x18,x19,x20,x21,x22,undef,undef,undef,undef,undef,undef,undef,undef,undef,undef]
structure TotA (V:View) (w0:World) (p:Nat) (k:Wk) (ts:List Nat) (s:SS) (st:Bool) (b4 b5 b6 b7 c:Nat) (sl:Value) (w:World):Prop where
 kp:Kp w0 w
 h4:w.heap[b4]? = some (.cells (stC s).toArray 100 (0,0))
 h5:w.heap[b5]? = some (.cells #[.bool st] 4 (0,0))
 h6:w.heap[b6]? = some (.cells #[.int .i64 0,.int .i64 0] 27 (0,0))
 h7:w.heap[b7]? = some (.cells #[.chan (some c)] 165 (0,0))
 hc:w.heap[c]? = some (.chan 0 #[] false 0 0 false)
 row:(Ent.row sl 124 1 k.sources.length (k.sources.map fun x=>ptr (ts.getD x 0))).Holds w
 new:∀ b,sl.ownBlock=some b→w0.heap.size≤b
 n4:w0.heap.size≤b4
 n5:w0.heap.size≤b5
 n6:w0.heap.size≤b6
 n7:w0.heap.size≤b7
 nc:w0.heap.size≤c
 n64:b6≠b4∧b6≠b5∧b6≠b7∧sl.ownBlock≠some b6
theorem sources_pos {k:Wk} (hok:k.Ok):0 < k.sources.length:=by
 have h0:=(hok.ves 0 hok.pos).2.1
 exact List.length_pos_of_mem (a:=0) (List.mem_filter.2 ⟨List.mem_range.2 hok.pos,by simp;omega⟩)
theorem mkchan (w:World):(Instr.makeChan 165 (.int .i64 0)).run Tryd.prog w=.ok (.chan (some w.heap.size)) (w.alloc (.chan 0 #[] false 0 0 false)):=by
 have hi:(Tryd.prog.info? 27).map (·.bytes)=some 16:=by kernel_rfl
 cases hq:Tryd.prog.info? 27 with
 | none=>rw [hq] at hi;cases hi
 | some i =>
  rw [hq] at hi
  have hb:i.bytes=16:=by simpa using hi
  exact run_makeChan (P:=Tryd.prog) (t:=165) Tryd.underlying165 hq .i64 0 (by omega) (by rw [hb];decide)
theorem run_mkchan {o:Oper} {ρ:Operand→Value} {x:Operand} (ho:o.op=.makeChan 165 x) (hx:ρ x=.int .i64 0) (w:World):(execOp ρ o).run Tryd.prog w=.ok (.value (.chan (some w.heap.size))) (w.alloc (.chan 0 #[] false 0 0 false)):=by
 unfold execOp
 simp [ho,hx,mkchan]
theorem rch_store1 {tgt k:List Item} {S:Act→World→Prop} {a:Act} {w0 w:World} {X:List Nat} {L:List Ent} (hS:St w0 X V L w) {ops:Array Oper} {i:Nat} {rest:List Nat} {o:Oper} (ho:ops[i]? = some o) (hw:Region.wanted o (yielded ops a.tmps)=true)
  {ty:TypeId} {x y:Operand} (hop:o.op=.store ty x y) {j b:Nat} {i':Nat} {t:TypeId} {cs:List Value} (hj:L[j]? = some (.blk b t cs)) (hx:a.eval x=.pointer (some ⟨b,i',none⟩)) {v:Value} (hy:a.eval y=v) (hv:v.oneCell'=true) (hty:oneB Tryd.prog ty=true) (hl:i' < cs.length)
  (h:∀ w',St w0 X V (L.set j (.blk b t (cs.set i' v))) w'→Rch Tryd.prog tgt S (.inRegion ops rest :: k) (a.put o.dst undef) w'):Rch Tryd.prog tgt S (.inRegion ops (i :: rest) :: k) a w:=by
 obtain ⟨w',hr,hS'⟩:=run_store1 (P:=Tryd.prog) hS hop hj hx hy hv hty hl rfl
 exact rch_op0 ho hw hr (h w' hS')
set_option maxRecDepth 20000 in
set_option maxHeartbeats 2000000 in
theorem total_start (p:Nat) (k:Wk) (ts:List Nat) (vv rv:Value) (hC:Cel V p k ts vv rv) (hok:k.Ok) (s:SS) (hs:s.WF) (st:Bool) (w:World) (hV:V.In w) :
  Rch Tryd.prog [.code (.block 0 (.loop L1)),.code K8] (fun a w'=>∃ b4 b5 b6 b7 c sl,a=⟨tm1 p s st b4 b5 b6 b7 c sl k.sources.length 0 undef undef undef undef undef undef,[]⟩∧TotA V w p k ts s st b4 b5 b6 b7 c sl w')
   [.code B97] { tmps:=#[ptr p,.agg (stC s).toArray,.bool st] ++ Array.replicate 30 undef,defers:=[] } w:=by
 have HL:(stC s).length=18:=stC_len hs
 have hS:=St.start w V hV
 have hmk:=mkchan
 simp only [Array.replicate_succ,Array.replicate_zero,List.push_toArray,List.append_toArray,List.nil_append,List.cons_append]
 unfold ptr
 refine rch_seq (rch_code ?_)
 go_wp2_with (first | ((with_reducible refine gB ?_);refine qboxd 4 rfl hS rfl rfl rfl ?_;refine ⟨_,za,?_⟩;clear hS;(try clear w');intro b4;intro a' hp;(try simp only [fr] at hp);subst hp;intro w' hS) | ((with_reducible refine gB ?_);refine qboxd 5 rfl hS rfl rfl rfl ?_;refine ⟨_,za,?_⟩;clear hS;(try clear w');intro b5;intro a' hp;(try simp only [fr] at hp);subst hp;intro w' hS) | ((with_reducible refine gA ?_);refine qallocd 6 rfl hS rfl rfl ?_;clear hS;(try clear w');intro b6;intro a' hp;(try simp only [fr] at hp);subst hp;intro w' hS))
 refine rch_seq (rch_region ?_)
 have g4:w'.heap[b4]? = some (.cells (stC s).toArray 100 (0,0)):=hS.has1
 have g5:w'.heap[b5]? = some (.cells #[.bool st] 4 (0,0)):=hS.has1
 have g6:w'.heap[b6]? = some (.cells #[.int .i64 0,.int .i64 0] 27 (0,0)):=hS.has1
 have l4:w.heap.size≤b4:=(hS.new (.blk b4 100 (stC s)) (by simp) b4 rfl).elim id (fun h=>nomatch h)
 have l5:w.heap.size≤b5:=(hS.new (.blk b5 4 [.bool st]) (by simp) b5 rfl).elim id (fun h=>nomatch h)
 have l6:w.heap.size≤b6:=(hS.new (.blk b6 27 [.int .i64 0,.int .i64 0]) (by simp) b6 rfl).elim id (fun h=>nomatch h)
 have n64:b6≠b4:=by
  rintro rfl
  rw [g4] at g6
  simp only [Option.some.injEq,Obj.cells.injEq] at g6
  exact absurd g6.2.1 (by decide)
 have n65:b6≠b5:=by
  rintro rfl
  rw [g5] at g6
  simp only [Option.some.injEq,Obj.cells.injEq] at g6
  exact absurd g6.2.1 (by decide)
 refine rch_op (i:=0) rfl rfl (run_mkchan rfl rfl w') ?_
 simp only [fr]
 have hk1:Kp w' (w'.alloc (.chan 0 #[] false 0 0 false)):=⟨rfl,rfl,by show _≤(w'.heap.push _).size;simp,fun k hk=>heap_alloc_old w' _ hk⟩
 have hc1:(w'.alloc (.chan 0 #[] false 0 0 false)).heap[w'.heap.size]? = some (.chan 0 #[] false 0 0 false):=heap_alloc_new w' _
 have lt:∀ {b:Nat} {o:Obj},w'.heap[b]? = some o→b < w'.heap.size:=fun h=>lt_of_heap h
 have g41:=(hk1.old _ (lt g4)).trans g4
 have g51:=(hk1.old _ (lt g5)).trans g5
 have g61:=(hk1.old _ (lt g6)).trans g6
 have lc:w.heap.size≤w'.heap.size:=hS.size
 have hkp0:=(hS.toKp).trans hk1
 have hin:=(hS.kp hk1).view
 clear hS lt hk1
 generalize w'.alloc (.chan 0 #[] false 0 0 false)=w1 at *
 generalize w'.heap.size=c at *
 clear g4 g5 g6
 have hS:=St.start w1 V hin
 refine rch_op (i:=1) rfl rfl (run_alloc (P:=Tryd.prog) hS (cs:=[.chan none]) rfl (by kernel_rfl) (by kernel_rfl)).1 ?_
 replace hS:=hS.alloc 165 [.chan none]
 generalize w1.alloc (.cells [Value.chan none].toArray 165)=w2 at *
 generalize w1.heap.size=b7 at *
 refine rch_store1 hS (i:=2) (v:=.chan (some c)) rfl rfl rfl (j:=0) rfl rfl rfl rfl (by kernel_rfl) (by decide) ?_
 clear hS
 intro w3 hS
 simp only [List.set_cons_zero] at hS
 refine rch_region_end (rch_seq (rch_code ?_))
 go_wp2_with (go_at_call 93;refine (sources_ok _ p k ts vv rv hC _ (St.view hS)).mono ?_;rintro _ w4 ⟨sl,rfl,hkp,hrow,hnew⟩)
 have hpos:=sources_pos hok
 have hle:k.sources.length≤6:=Nat.le_trans (srcTo_len k k.n) hC.le
 have hsz3:=hS.size
 replace hS:=hS.kp hkp
 obtain ⟨g,cap,cur,rfl,hc2,hc3,hcur,hget⟩:=row_slice hrow.1 hpos
 generalize hn:k.sources.length=n at *
 refine rch_seq (rch_seq (rch_code ?_))
 go_wp2_with (fail)
 refine rch_here ⟨b4,b5,b6,b7,c,_,rfl,?_⟩
 have hK:=hS.toKp
 have hsz0:=hkp0.size
 have l6':=lt_of_heap g61
 have n7:w1.heap.size≤b7:=(hS.new (.blk b7 165 [.chan (some c)]) (by simp) b7 rfl).elim id (fun h=>nomatch h)
 have hg3:=hnew g rfl
 exact ⟨hkp0.trans hK,(hK.old _ (lt_of_heap g41)).trans g41,(hK.old _ (lt_of_heap g51)).trans g51,(hK.old _ l6').trans g61,hS.has1,(hK.old _ (lt_of_heap hc1)).trans hc1,hn ▸ hrow,fun b hb=>by have:=hnew b hb;omega,l4,l5,l6,by omega,lc,
  n64,n65,by omega,fun h=>by have:g=b6:=by simpa [Value.ownBlock] using h
                             omega⟩
end Go.Proofs.YtjjmefieegcddaaDoor
namespace Go.Proofs.YtjjmefieegcddaaDoor
open Go.RowKit Go.Wg Go.Mm Go.Wk
open Go Go.Sr Go.Ph Go.Tm Go.Conc
variable {w:World} {V:View}
noncomputable def ops6:Array Oper:=match L1 with | .seq _ (.seq _ (.seq (.block _ (.seq _ (.region _ o _))) _))=>o | _=>#[]
noncomputable def R7:Code:=match L1 with | .seq _ (.seq _ (.seq _ r))=>r | _=>.skip
noncomputable def L2:Code:=match K8 with | .seq _ (.seq (.seq _ (.block _ (.loop l))) _)=>l | _=>.skip
noncomputable def K13:Code:=match K8 with | .seq _ (.seq _ r)=>r | _=>.skip
noncomputable def R11:Code:=match L2 with | .seq _ (.seq _ (.seq (.block _ r) _))=>r | _=>.skip
noncomputable def ops11:Array Oper:=match R11 with | .region _ o _=>o | _=>#[]
noncomputable def R12:Code:=match L2 with | .seq _ (.seq _ (.seq _ r))=>r | _=>.skip
noncomputable def head1:List Item:=[.code L1,.inLoop L1,.inBlock 0,.code K8]
noncomputable def atGo (l:List Nat):List Item:=[.inRegion ops6 l,.inBlock 1,.code R7,.inLoop L1,.inBlock 0,.code K8]
noncomputable def head2:List Item:=[.code L2,.inLoop L2,.inBlock 2,.code K13]
noncomputable def at11:List Item:=[.code R11,.inBlock 3,.code R12,.inLoop L2,.inBlock 2,.code K13]
noncomputable def in11 (l:List Nat):List Item:=[.inRegion ops11 l,.inBlock 3,.code R12,.inLoop L2,.inBlock 2,.code K13]
theorem orders11:orders ops11=[[0,1,2,3,4],[1,0,2,3,4],[1,2,0,3,4]]:=by kernel_rfl
set_option maxRecDepth 20000 in
set_option maxHeartbeats 2000000 in
theorem seg1 (p:Nat) (s:SS) (st:Bool) (b4 b5 b6 b7 c g cap n i t:Nat) (x10 x18 x19 x20 x21 x22:Value) (hi:i < n) (hn:n≤6) (hg:V.Cell g i (ptr t)) (w:World) (hV:V.In w) :
  Rch Tryd.prog (atGo [1]) (fun a w'=>∃ b10,a=⟨tm1 p s st b4 b5 b6 b7 c (.slice (some ⟨g,0,none⟩) n cap) n i (ptr b10) (.bool true) (.pointer (some ⟨g,i,none⟩)) (ptr t) (.func (.func 123) #[] #[ptr b10,ptr b4,ptr b5,ptr b7]) x22,[]⟩∧St w [] V [.blk b10 124 [ptr t]] w')
   head1 ⟨tm1 p s st b4 b5 b6 b7 c (.slice (some ⟨g,0,none⟩) n cap) n i x10 x18 x19 x20 x21 x22,[]⟩ w:=by
 have hS:=St.start w V hV
 have h0:(0:Int)≤i:=by omega
 have h1:(i:Int) < n:=by omega
 unfold tm1 ptr at *
 generalize (stC s).toArray=stv
 refine rch_seq (rch_code ?_)
 go_wp2_with (fail)
 refine rch_seq (rch_code ?_)
 go_wp2_with (fail)
 refine rch_seq (rch_block (rch_seq (rch_code ?_)))
 go_wp2_with (first | ((first | ((with_reducible refine gL ?_);refine qv1 hS rfl rfl rfl ?_) | ((with_reducible refine gS ?_);refine qs1 hS rfl rfl rfl ?_));refine ⟨_,zd,?_⟩;clear hS;(try clear w');intro a' hp;(try simp only [fr] at hp);subst hp;intro w' hS;(try simp only [sE] at hS)) | ((with_reducible refine gA ?_);refine qallocd 10 rfl hS rfl rfl ?_;clear hS;(try clear w');intro b10;intro a' hp;(try simp only [fr] at hp);subst hp;intro w' hS))
 refine rch_region (rch_op (i:=0) rfl rfl (v:=.func (.func 123) #[] #[.pointer (some ⟨b10,0,none⟩),.pointer (some ⟨b4,0,none⟩),.pointer (some ⟨b5,0,none⟩),.pointer (some ⟨b7,0,none⟩)]) (w':=w') (by unfold execOp;simp [Act.eval,Instr.makeFunc,go_sem]) ?_)
 exact rch_here ⟨b10,rfl,hS⟩
set_option maxRecDepth 20000 in
set_option maxHeartbeats 2000000 in
theorem seg2 (p:Nat) (s:SS) (st:Bool) (b4 b5 b6 b7 c n i:Nat) (sl x10 x18 x19 x20 x21 x22:Value) (hi:i < n) (hn:n≤6) (w:World) (hV:V.In w) :
  Rch Tryd.prog head1 (fun a w'=>a=⟨tm1 p s st b4 b5 b6 b7 c sl n (i+1) x10 x18 x19 x20 x21 (.int .i64 ((i+1:Nat):Int)),[]⟩∧St w [] V [] w')
   (atGo []) ⟨tm1 p s st b4 b5 b6 b7 c sl n i x10 x18 x19 x20 x21 x22,[]⟩ w:=by
 have hS:=St.start w V hV
 have e1:((i+1:Nat):Int)=(i:Int)+1:=by omega
 rw [show tm1 p s st b4 b5 b6 b7 c sl n (i+1) x10 x18 x19 x20 x21 (.int .i64 ((i+1:Nat):Int))=#[ptr p,.agg (stC s).toArray,.bool st,undef,ptr b4,ptr b5,ptr b6,ptr b7,sl,undef,x10,undef,.chan (some c),ptr p,sl,sl,.int .i64 n,.int .i64 ((i:Int)+1),x18,x19,x20,x21,.int .i64 ((i:Int)+1),undef,undef,undef,undef,undef,undef,undef,undef,undef,undef] from by unfold tm1;rw [e1]]
 unfold tm1 ptr at *
 generalize (stC s).toArray=stv
 refine rch_region_end (rch_inBlock (rch_code ?_))
 conv=>enter [2];whnf
 go_wp2_with (fail)
 refine rch_inLoop ?_
 exact rch_here (tgt:=head1) ⟨rfl,hS⟩
def tm2 (p:Nat) (s:SS) (st:Bool) (b4 b5 b6 b7 c bo:Nat) (sl:Value) (n i j:Nat) (x10 x18 x19 x20 x21 x22 x26 x27 x28 x29 x30 x31:Value):Array Value :=
 #[ptr p,.agg (stC s).toArray,.bool st,undef,ptr b4,ptr b5,ptr b6,ptr b7,sl,undef,x10,ptr bo,.chan (some c),ptr p,sl,sl,.int .i64 n,.int .i64 i,x18,x19,x20,x21,x22,sl,.int .i64 n,.int .i64 j,x26,x27,x28,x29,x30,x31,undef]
set_option maxRecDepth 20000 in
set_option maxHeartbeats 2000000 in
theorem seg3 (p:Nat) (s:SS) (st:Bool) (b4 b5 b6 b7 c g cap n:Nat) (x10 x18 x19 x20 x21 x22:Value) (hn:n≤6) (w:World) (hV:V.In w) :
  Rch Tryd.prog head2 (fun a w'=>∃ bo,a=⟨tm2 p s st b4 b5 b6 b7 c bo (.slice (some ⟨g,0,none⟩) n cap) n n 0 x10 (.bool false) x19 x20 x21 x22 undef undef undef undef undef undef,[]⟩∧St w [] V [.blk bo 27 [.int .i64 0,.int .i64 0]] w')
   head1 ⟨tm1 p s st b4 b5 b6 b7 c (.slice (some ⟨g,0,none⟩) n cap) n n x10 x18 x19 x20 x21 x22,[]⟩ w:=by
 have hS:=St.start w V hV
 unfold tm1 tm2 ptr at *
 generalize (stC s).toArray=stv
 refine rch_seq (rch_code ?_)
 go_wp2_with (fail)
 refine rch_seq (rch_cond (t:=false) rfl (rch_exit rfl ?_))
 refine rch_seq (rch_code ?_)
 go_wp2_with ((with_reducible refine gA ?_);refine qallocd 11 rfl hS rfl rfl ?_;clear hS;(try clear w');intro b11;intro a' hp;(try simp only [fr] at hp);subst hp;intro w' hS)
 refine rch_seq (rch_seq (rch_code ?_))
 go_wp2_with (fail)
 refine rch_block (rch_loop ?_)
 exact rch_here (tgt:=head2) ⟨b11,rfl,hS⟩
set_option maxRecDepth 20000 in
set_option maxHeartbeats 2000000 in
theorem seg4 (p:Nat) (s:SS) (st:Bool) (b4 b5 b6 b7 c bo n i j:Nat) (sl x10 x18 x19 x20 x21 x22 x26 x27 x28 x29 x30 x31:Value) (hj:j < n) (hn:n≤6) (w:World) (hV:V.In w) :
  Rch Tryd.prog at11 (fun a w'=>a=⟨tm2 p s st b4 b5 b6 b7 c bo sl n i j x10 x18 x19 x20 x21 x22 (.bool true) x27 x28 x29 x30 x31,[]⟩∧St w [] V [] w')
   head2 ⟨tm2 p s st b4 b5 b6 b7 c bo sl n i j x10 x18 x19 x20 x21 x22 x26 x27 x28 x29 x30 x31,[]⟩ w:=by
 have hS:=St.start w V hV
 have h0:(0:Int)≤j:=by omega
 have h1:(j:Int) < n:=by omega
 unfold tm2 ptr at *
 generalize (stC s).toArray=stv
 refine rch_seq (rch_code ?_)
 go_wp2_with (fail)
 refine rch_seq (rch_code ?_)
 go_wp2_with (fail)
 refine rch_seq (rch_block ?_)
 exact rch_here (tgt:=at11) ⟨rfl,hS⟩
end Go.Proofs.YtjjmefieegcddaaDoor
namespace Go.Proofs.YtjjmefieegcddaaDoor
open Go.RowKit Go.Wg Go.Mm Go.Wk
open Go Go.Sr Go.Ph Go.Tm Go.Conc
variable {w:World} {V:View}
theorem rch_storen {tgt k:List Item} {S:Act→World→Prop} {a:Act} {w0 w:World} {X:List Nat} {L:List Ent} (hS:St w0 X V L w) {ops:Array Oper} {i:Nat} {rest:List Nat} {o:Oper} (ho:ops[i]? = some o) (hw:Region.wanted o (yielded ops a.tmps)=true)
  {ty:TypeId} {x y:Operand} (hop:o.op=.store ty x y) {j b:Nat} {i' n:Nat} {t:TypeId} {cs vs:List Value} (hj:L[j]? = some (.blk b t cs)) (hx:a.eval x=.pointer (some ⟨b,i',none⟩)) (hy:a.eval y=.agg vs.toArray) (hv:∀ v∈vs,v.oneCell'=true) (hty:rowB Tryd.prog ty n=true) (hn:vs.length=n) (hl:i'+n≤cs.length)
  (h:∀ w',St w0 X V (L.set j (.blk b t (splice cs i' vs))) w'→Rch Tryd.prog tgt S (.inRegion ops rest :: k) (a.put o.dst undef) w'):Rch Tryd.prog tgt S (.inRegion ops (i :: rest) :: k) a w:=by
 obtain ⟨w',hr,hS'⟩:=run_storen (P:=Tryd.prog) hS hop hj hx hy hv hty hn hl rfl
 exact rch_op0 ho hw hr (h w' hS')
theorem St.own1 {w:World} {V:View} (hV:V.In w) {b:Nat} {t:TypeId} {cs:List Value} (hb:w.heap[b]? = some (.cells cs.toArray t (0,0))) (hn:V b=none):St w [b] V [.blk b t cs] w :=
 ⟨rfl,rfl,Nat.le_refl _,fun _ _ _=>rfl,hV,fun e he=>by
  simp only [List.mem_singleton] at he
  subst he
  exact hb,fun e he b' hb'=>by
  simp only [List.mem_singleton] at he
  subst he
  cases hb'
  exact .inr (by simp),fun e he b' hb'=>by
  simp only [List.mem_singleton] at he
  subst he
  cases hb'
  exact hn,by simp [Ent.foot]⟩
def l5 (l:List Nat):List Nat:=if l=[1,2,0,3,4] then [0,3,4] else [3,4]
def x5 (l:List Nat) (acc:Int × Int) (x:Value):Value:=if l=[1,2,0,3,4] then x else spanV acc
theorem seg5 (p:Nat) (s:SS) (st:Bool) (b4 b5 b6 b7 c bo n i j:Nat) (acc:Int × Int) (sl x10 x18 x19 x20 x21 x22 x26 x27 x28 x29 x30 x31:Value) (l:List Nat) (hl:l=[0,1,2,3,4]∨l=[1,0,2,3,4]∨l=[1,2,0,3,4])
  (h7:V.Cell b7 0 (.chan (some c))) (ho:w.rangeAt bo 0 [.int .i64 acc.1,.int .i64 acc.2]) (hV:V.In w) :
  Rch Tryd.prog (in11 (2 :: l5 l)) (fun a w'=>a=⟨tm2 p s st b4 b5 b6 b7 c bo sl n i j x10 x18 x19 x20 x21 x22 x26 (x5 l acc x27) (.chan (some c)) x29 x30 x31,[]⟩∧w'=w)
   (in11 l) ⟨tm2 p s st b4 b5 b6 b7 c bo sl n i j x10 x18 x19 x20 x21 x22 x26 x27 x28 x29 x30 x31,[]⟩ w:=by
 have hc7:=h7.cell hV
 rcases hl with rfl | rfl | rfl
 ·rw [show l5 [0,1,2,3,4]=[3,4] from rfl,show x5 [0,1,2,3,4] acc x27=spanV acc from rfl]
  unfold tm2 ptr
  refine rch_op (i:=0) rfl rfl (run_loadn (n:=2) rfl rfl RowT.ok rfl ho) ?_
  refine rch_op (i:=1) rfl rfl (run_load1 rfl rfl OneT.ok hc7) ?_
  exact rch_here (tgt:=in11 [2,3,4]) ⟨rfl,rfl⟩
 ·rw [show l5 [1,0,2,3,4]=[3,4] from rfl,show x5 [1,0,2,3,4] acc x27=spanV acc from rfl]
  unfold tm2 ptr
  refine rch_op (i:=1) rfl rfl (run_load1 rfl rfl OneT.ok hc7) ?_
  refine rch_op (i:=0) rfl rfl (run_loadn (n:=2) rfl rfl RowT.ok rfl ho) ?_
  exact rch_here (tgt:=in11 [2,3,4]) ⟨rfl,rfl⟩
 ·rw [show l5 [1,2,0,3,4]=[0,3,4] from rfl,show x5 [1,2,0,3,4] acc x27=x27 from rfl]
  unfold tm2 ptr
  refine rch_op (i:=1) rfl rfl (run_load1 rfl rfl OneT.ok hc7) ?_
  exact rch_here (tgt:=in11 [2,0,3,4]) ⟨rfl,rfl⟩
set_option maxRecDepth 20000 in
set_option maxHeartbeats 2000000 in
theorem seg6 (p:Nat) (s:SS) (st:Bool) (b4 b5 b6 b7 c bo n i j:Nat) (acc r:Int × Int) (sl x10 x18 x19 x20 x21 x22 x26 x28 x30 x31:Value) (hj:j < n) (hn:n≤6) (hb:Pb 100000000000 acc) (hr:Pb 100000000000 r)
  (hob:w.heap[bo]? = some (.cells #[.int .i64 acc.1,.int .i64 acc.2] 27 (0,0))) (hVo:V bo=none) (hV:V.In w) :
  Rch Tryd.prog head2 (fun a w'=>a=⟨tm2 p s st b4 b5 b6 b7 c bo sl n i (j+1) x10 x18 x19 x20 x21 x22 x26 (spanV acc) x28 (spanV r) (spanV (bothS acc r)) (.int .i64 ((j+1:Nat):Int)),[]⟩∧St w [bo] V [.blk bo 27 [.int .i64 (bothS acc r).1,.int .i64 (bothS acc r).2]] w')
   (in11 [3,4]) ⟨tm2 p s st b4 b5 b6 b7 c bo sl n i j x10 x18 x19 x20 x21 x22 x26 (spanV acc) x28 (spanV r) x30 x31,[]⟩ w:=by
 have hS:St w [bo] V [.blk bo 27 [.int .i64 acc.1,.int .i64 acc.2]] w:=St.own1 hV hob hVo
 have h0:(0:Int)≤j:=by omega
 have e1:((j+1:Nat):Int)=(j:Int)+1:=by omega
 unfold tm2
 rw [e1]
 refine rch_call (i:=3) rfl rfl (run_call_body rfl Tryd.func127 (by kernel_rfl) rfl) ?_
 simp only [List.map_toArray,List.map_cons,List.map_nil]
 show Calls Tryd.prog 127 #[spanV acc,spanV r] w _
 refine (both_ok acc r (by unfold Pb at *;omega) (by unfold Pb at *;omega) (by unfold Pb at *;omega) (by unfold Pb at *;omega) w).mono ?_
 rintro e w' ⟨rfl,hk⟩
 refine ⟨_,rfl,?_⟩
 replace hS:=hS.kp hk
 refine rch_storen hS (i:=4) (vs:=[.int .i64 (bothS acc r).1,.int .i64 (bothS acc r).2]) rfl rfl rfl (j:=0) (i':=0) (n:=2) rfl rfl rfl (by simp [Value.oneCell']) (by kernel_rfl) rfl (by simp) ?_
 clear hS hk hob hVo hV
 intro w'' hS
 simp only [List.set_cons_zero,splice] at hS
 show Rch Tryd.prog head2 _ _ ⟨tm2 p s st b4 b5 b6 b7 c bo sl n i j x10 x18 x19 x20 x21 x22 x26 (spanV acc) x28 (spanV r) (spanV (bothS acc r)) x31,[]⟩ _
 simp only [tm2,spanV,ptr,List.take,List.drop,List.nil_append,List.cons_append,List.length_cons,List.length_nil,List.append_nil,Nat.reduceAdd,Nat.zero_add] at hS ⊢
 generalize (stC s).toArray=stv
 generalize (bothS acc r)=br at *
 refine rch_region_end (rch_inBlock (rch_code ?_))
 conv=>enter [2];whnf
 go_wp2_with (fail)
 refine rch_inLoop ?_
 exact rch_here (tgt:=head2) ⟨rfl,hS⟩
theorem seg6c (p:Nat) (s:SS) (st:Bool) (b4 b5 b6 b7 c bo n i j:Nat) (acc r:Int × Int) (sl x10 x18 x19 x20 x21 x22 x26 x27 x28 x30 x31:Value) (hj:j < n) (hn:n≤6) (hb:Pb 100000000000 acc) (hr:Pb 100000000000 r)
  (hob:w.heap[bo]? = some (.cells #[.int .i64 acc.1,.int .i64 acc.2] 27 (0,0))) (hVo:V bo=none) (hV:V.In w) (l:List Nat) (hl:(l=[3,4]∧x27=spanV acc)∨l=[0,3,4]) :
  Rch Tryd.prog head2 (fun a w'=>a=⟨tm2 p s st b4 b5 b6 b7 c bo sl n i (j+1) x10 x18 x19 x20 x21 x22 x26 (spanV acc) x28 (spanV r) (spanV (bothS acc r)) (.int .i64 ((j+1:Nat):Int)),[]⟩∧St w [bo] V [.blk bo 27 [.int .i64 (bothS acc r).1,.int .i64 (bothS acc r).2]] w')
   (in11 l) ⟨tm2 p s st b4 b5 b6 b7 c bo sl n i j x10 x18 x19 x20 x21 x22 x26 x27 x28 (spanV r) x30 x31,[]⟩ w:=by
 have h6:=seg6 p s st b4 b5 b6 b7 c bo n i j acc r sl x10 x18 x19 x20 x21 x22 x26 x28 x30 x31 hj hn hb hr hob hVo hV
 rcases hl with ⟨rfl,rfl⟩ | rfl
 ·exact h6
 ·have hr5:w.rangeAt bo 0 [.int .i64 acc.1,.int .i64 acc.2]:=range_at (cs:=[.int .i64 acc.1,.int .i64 acc.2]) (n:=2) hob rfl
  have e:tm2 p s st b4 b5 b6 b7 c bo sl n i j x10 x18 x19 x20 x21 x22 x26 (spanV acc) x28 (spanV r) x30 x31=(Act.put ⟨tm2 p s st b4 b5 b6 b7 c bo sl n i j x10 x18 x19 x20 x21 x22 x26 x27 x28 (spanV r) x30 x31,[]⟩ (some 27) (spanV acc)).tmps:=rfl
  rw [e] at h6
  exact rch_op (i:=0) rfl rfl (run_loadn (n:=2) rfl rfl RowT.ok rfl hr5) h6
set_option maxRecDepth 20000 in
set_option maxHeartbeats 2000000 in
theorem seg7 (p:Nat) (s:SS) (st:Bool) (b4 b5 b6 b7 c bo n i:Nat) (acc:Int × Int) (sl x10 x18 x19 x20 x21 x22 x26 x27 x28 x29 x30 x31:Value) (hn:n≤6)
  (h6:w.heap[b6]? = some (.cells #[.int .i64 0,.int .i64 0] 27 (0,0))) (hV6:V b6=none) (ho:V.Range bo 0 [.int .i64 acc.1,.int .i64 acc.2]) (hV:V.In w) :
  Rch Tryd.prog [.code .ret] (fun a w'=>(∃ x26 x32,a=⟨#[ptr p,.agg (stC s).toArray,.bool st,undef,ptr b4,ptr b5,ptr b6,ptr b7,sl,undef,x10,ptr bo,.chan (some c),ptr p,sl,sl,.int .i64 n,.int .i64 i,x18,x19,x20,x21,x22,sl,.int .i64 n,.int .i64 n,x26,x27,x28,x29,x30,x31,x32],[]⟩)∧St w [b6] V [.blk b6 27 [.int .i64 acc.1,.int .i64 acc.2]] w')
   head2 ⟨tm2 p s st b4 b5 b6 b7 c bo sl n i n x10 x18 x19 x20 x21 x22 x26 x27 x28 x29 x30 x31,[]⟩ w:=by
 have hS:St w [b6] V [.blk b6 27 [.int .i64 0,.int .i64 0]] w:=St.own1 hV h6 hV6
 unfold tm2 ptr at *
 generalize (stC s).toArray=stv
 refine rch_seq (rch_code ?_)
 go_wp2_with (fail)
 refine rch_seq (rch_cond (t:=false) rfl (rch_exit rfl ?_))
 refine rch_seq (rch_code ?_)
 go_wp2_with ((first | ((with_reducible refine gL ?_);refine qvn hS rfl rfl rfl ?_) | ((with_reducible refine gS ?_);refine qsall hS rfl rfl rfl ?_));refine ⟨_,zd,?_⟩;clear hS;(try clear w');intro a' hp;(try simp only [fr] at hp);subst hp;intro w' hS;(try simp only [sE] at hS))
 exact rch_here (tgt:=[.code .ret]) ⟨⟨_,_,rfl⟩,hS⟩
end Go.Proofs.YtjjmefieegcddaaDoor
namespace Go.Ph
open Go
open Go.Tm
open Go.Sr
open Go.Conc
section
variable {DD DD':List Nat} {R:BR}
theorem vr0_same (hR:∀ b∈DD,∀ b',R b b'→b'=b) {v u v':Value} (h:VR0 (idR DD) v u) (h':VR0 R v v'):v'=v:=by
 cases h with
 | flat hf =>
  cases h' with
  | flat _=>rfl
  | ptr _=>cases hf
  | slice _=>cases hf
  | chan _=>cases hf
 | ptr h =>
  cases h' with
  | flat hf=>cases hf
  | ptr h' =>
   obtain ⟨e1,e2,e3⟩:=h'
   have:=hR _ h.1.2 _ e1
   rename_i a _ a'
   cases a
   cases a'
   simp_all
 | slice h =>
  cases h' with
  | flat hf=>cases hf
  | slice h' =>
   obtain ⟨e1,e2,e3⟩:=h'
   have:=hR _ h.1.2 _ e1
   rename_i a _ _ _ a'
   cases a
   cases a'
   simp_all
 | chan h =>
  cases h' with
  | flat hf=>cases hf
  | chan h'=>rw [hR _ h.2 _ h']
mutual
theorem vr1_same [Fns] (hR:∀ b∈DD,∀ b',R b b'→b'=b) {v u v':Value}:VR1 (idR DD) v u→VR1 R v v'→v'=v
 | .base h,h'=>by
  cases h' with
  | base h'=>exact vr0_same hR h h'
  | func _ _ _ _ _ =>
   cases h with
   | flat hf=>cases hf
 | .func (a:=a) (c:=c) h0 h1 h2 h3 h4,h'=>by
  cases h' with
  | base h' =>
   cases h' with
   | flat hf=>cases hf
  | func k0 k1 k2 k3 k4 =>
   rename_i a1 c1 a' c'
   congr 1
   ·apply Array.ext k1
    intro i i1 i2
    have i3:i < a1.size:=by rw [h1];exact i2
    exact vr_same hR (h2 i _ _ (Array.getElem?_eq_getElem i2) (Array.getElem?_eq_getElem i3)) (k2 i _ _ (Array.getElem?_eq_getElem i2) (Array.getElem?_eq_getElem i1))
   ·apply Array.ext k3
    intro i i1 i2
    have i3:i < c1.size:=by rw [h3];exact i2
    exact vr_same hR (h4 i _ _ (Array.getElem?_eq_getElem i2) (Array.getElem?_eq_getElem i3)) (k4 i _ _ (Array.getElem?_eq_getElem i2) (Array.getElem?_eq_getElem i1))
theorem vr_same [Fns] (hR:∀ b∈DD,∀ b',R b b'→b'=b) {v u v':Value}:VR (idR DD) v u→VR R v v'→v'=v
 | .base h,h'=>by
  cases h' with
  | base h'=>exact vr1_same hR h h'
  | agg _ _ =>
   cases h with
   | base h =>
    cases h with
    | flat hf=>cases hf
 | .agg (c:=c) (c':=c1) h1 h2,h'=>by
  cases h' with
  | base h' =>
   cases h' with
   | base h' =>
    cases h' with
    | flat hf=>cases hf
  | agg k1 k2 =>
   congr 1
   apply Array.ext k1
   intro i i1 i2
   have i3:i < c1.size:=by rw [h1];exact i2
   exact vr1_same hR (h2 i _ _ (Array.getElem?_eq_getElem i2) (Array.getElem?_eq_getElem i3)) (k2 i _ _ (Array.getElem?_eq_getElem i2) (Array.getElem?_eq_getElem i1))
end
def AllEq [Fns] (R:BR):List Value→List Value→Prop
 | [],[]=>True
 | v :: l,u :: m=>(∀ v',VR R v v'→v'=u)∧AllEq R l m
 | _,_=>False
theorem allEq_get [Fns]:∀ {l m:List Value},AllEq R l m→m.length=l.length∧∀ (i:Nat) (v u:Value),l[i]? = some v→m[i]? = some u→∀ v',VR R v v'→v'=u
 | [],[],_=>⟨rfl,fun i v u h=>by simp at h⟩
 | v :: l,u :: m,h=>by
  obtain ⟨h1,h2⟩:=allEq_get h.2
  refine ⟨by simp [h1],fun i x y hx hy=>?_⟩
  cases i with
  | zero=>simp at hx hy;subst hx;subst hy;exact h.1
  | succ i=>simp at hx hy;exact h2 i x y hx hy
theorem tmps_eq [Fns] {t t':Array Value} {m:List Value} (h:AF (VR R) t t') (ha:AllEq R t.toList m):t'=m.toArray:=by
 obtain ⟨h1,h2⟩:=allEq_get ha
 have hsz:t'.size=m.toArray.size:=by rw [h.1];simp [h1]
 apply Array.ext hsz
 intro i i1 i2
 have i3:i < t.size:=by rw [← h.1];exact i1
 have i4:i < m.length:=by simpa using i2
 have:=h2 i t[i] m[i] (by simp [i3]) (by simp [i4]) t'[i] (h.raw i _ _ (Array.getElem?_eq_getElem i3) (Array.getElem?_eq_getElem i1))
 simpa using this
theorem all_self [Fns] {l:List Value} (h:∀ v∈l,VR (idR DD) v v) (hR:∀ b∈DD,∀ b',R b b'→b'=b):AllEq R l l:=by
 induction l with
 | nil=>trivial
 | cons v l ih=>exact ⟨fun v' h'=>vr_same hR (h v (by simp)) h',ih fun u hu=>h u (by simp [hu])⟩
end
end Go.Ph
namespace Go.Proofs.YtjjmefieegcddaaDoor
open Go.RowKit Go.Wg Go.Mm Go.Wk
open Go Go.Sr Go.Ph Go.Tm Go.Conc
noncomputable def itemB (x:Item):Bool :=
 match x with
 | .code c | .inLoop c=>okWC Tryd.prog c && okCode true c
 | .inRegion ops _=>(ops.all fun o=>okWs Tryd.prog o.op) && ops.all fun o=>okOp true o.op
 | .inBlock _=>true
 | _=>false
theorem items_of {todo:List Item} (h:todo.all itemB=true):∀ x∈todo,ItemW Tryd.prog x∧ItemOk true x:=fun x hx=>by
 have:=List.all_eq_true.1 h x hx
 match x,this with
 | .code c,h=>exact ⟨(Bool.and_eq_true_iff.1 h).1,(Bool.and_eq_true_iff.1 h).2⟩
 | .inLoop c,h=>exact ⟨(Bool.and_eq_true_iff.1 h).1,(Bool.and_eq_true_iff.1 h).2⟩
 | .inRegion ops l,h=>exact ⟨(Bool.and_eq_true_iff.1 h).1,(Bool.and_eq_true_iff.1 h).2⟩
 | .inBlock id,h=>exact ⟨trivial,trivial⟩
theorem it_head1:head1.all itemB=true:=by kernel_rfl
theorem it_head2:head2.all itemB=true:=by kernel_rfl
theorem it_atGo (l:List Nat):(atGo l).all itemB=true:=(show (atGo []).all itemB=true by kernel_rfl)
theorem it_in11 (l:List Nat):(in11 l).all itemB=true:=(show (in11 []).all itemB=true by kernel_rfl)
structure PhX (V:View) (wA:World) (p:Nat) (k:Wk) (ts:List Nat) (vv rv:Value) (s:SS) (st:Bool) (b4 b5 b6 b7 c g cap:Nat) (D:List Nat) (cur:Array Value):Prop where
 inA:V.In wA
 cel:Cel V p k ts vv rv
 ok:k.Ok
 wf:s.WF
 lo:∀ i,0≤(s.losAt i).1
 hi:∀ i,(s.losAt i).2≤1000
 cl:Closed V D
 pD:p∈D
 v4:V b4=some (.cells (stC s).toArray 100 (0,0))
 v5:V b5=some (.cells #[.bool st] 4 (0,0))
 v7:V b7=some (.cells #[.chan (some c)] 165 (0,0))
 vg:V g=some (.cells cur 124 (0,0))
 curD:∀ v∈cur,inD D v
 src:∀ (i x:Nat),k.sources[i]? = some x→cur[i]? = some (ptr (ts.getD x 0))
 vc:V c=none
 v6:V b6=none
 h6:wA.heap[b6]? = some (.cells #[.int .i64 0,.int .i64 0] 27 (0,0))
 hc:wA.heap[c]? = some (.chan 0 #[] false 0 0 false)
 ge:Wg.gN≤b4∧Wg.gN≤b5∧Wg.gN≤b6∧Wg.gN≤b7∧Wg.gN≤c∧Wg.gN≤g
 n6:k.sources.length≤6
 npos:0 < k.sources.length
structure PhI (wA:World) (b6 c:Nat) (D1 wr1:Nat→Prop) (w:World):Prop where
 kept:∀ b,b < wA.heap.size→b≠b6→b≠c→w.heap[b]? = wA.heap[b]?
 size:wA.heap.size≤w.heap.size
 os:w.os=wA.os
 out:w.output=wA.output
 rd:∀ b,b < wA.heap.size→b≠b6→D1 b
 w6:wr1 b6
 low:∀ b,wr1 b→b=b6∨wA.heap.size≤b
 h6:w.heap[b6]? = some (.cells #[.int .i64 0,.int .i64 0] 27 (0,0))
 hc:∃ o,w.heap[c]? = some o∧isCh o=true
section
variable {V:View} {wA w w1 w2:World} {p:Nat} {k:Wk} {ts:List Nat} {vv rv:Value} {s:SS} {st:Bool} {b4 b5 b6 b7 c g cap:Nat} {D:List Nat} {cur:Array Value} {D1 wr1 x:Nat→Prop}
theorem PhX.n6c (X:PhX V wA p k ts vv rv s st b4 b5 b6 b7 c g cap D cur):b6≠c:=by
 rintro rfl
 have h1:=X.h6
 rw [X.hc] at h1
 cases h1
theorem PhX.clt (X:PhX V wA p k ts vv rv s st b4 b5 b6 b7 c g cap D cur):c < wA.heap.size:=lt_of_heap X.hc
theorem PhX.v6lt (X:PhX V wA p k ts vv rv s st b4 b5 b6 b7 c g cap D cur):b6 < wA.heap.size:=lt_of_heap X.h6
theorem PhX.ne6 (X:PhX V wA p k ts vv rv s st b4 b5 b6 b7 c g cap D cur) {b:Nat} {o:Obj} (h:V b=some o):b≠b6∧b≠c∧b < wA.heap.size :=
 ⟨(by rintro rfl;rw [X.v6] at h;cases h),(by rintro rfl;rw [X.vc] at h;cases h),lt_of_heap (X.inA _ _ h)⟩
theorem sameCh {a b:World} (h:SameO c a b c) (ho:∃ o,a.heap[c]? = some o∧isCh o=true):∃ o,b.heap[c]? = some o∧isCh o=true:=by
 obtain ⟨o,h1,h2⟩:=ho
 rcases h with h | ⟨_,o1,o2,_,h4,_,h6⟩
 ·exact ⟨o,h.trans h1,h2⟩
 ·exact ⟨o2,h4,h6⟩
theorem sameNe {a b:World} {i:Nat} (h:SameO c a b i) (hi:i≠c):b.heap[i]? = a.heap[i]?:=by
 rcases h with h | ⟨h,_⟩
 ·exact h
 ·exact (hi h).elim
theorem PhI.rely (X:PhX V wA p k ts vv rv s st b4 b5 b6 b7 c g cap D cur) (I:PhI wA b6 c D1 wr1 w) (hr:RelyW c (orS D1 wr1) w w1):PhI wA b6 c D1 wr1 w1 :=
 ⟨fun b h1 h2 h3=>(sameNe (hr.keep b (.inl (I.rd b h1 h2))) h3).trans (I.kept b h1 h2 h3),Nat.le_trans I.size hr.size,hr.os.trans I.os,hr.output.trans I.out,I.rd,I.w6,I.low,
  (sameNe (hr.keep b6 (.inr I.w6)) X.n6c).trans I.h6,sameCh (hr.keep c (.inl (I.rd c X.clt (Ne.symm X.n6c)))) I.hc⟩
theorem PhI.after (X:PhX V wA p k ts vv rv s st b4 b5 b6 b7 c g cap D cur) (I:PhI wA b6 c D1 wr1 w) (hk:KeptW c D1 wr1 w w2) (hx:∀ b,x b→wr1 b∨w.heap.size≤b) (h6:w2.heap[b6]? = some (.cells #[.int .i64 0,.int .i64 0] 27 (0,0))) :
  PhI wA b6 c D1 (fun b=>wr1 b∨x b) w2:=by
 have hn:∀ b,b < wA.heap.size→b≠b6→¬ wr1 b:=fun b h1 h2 h=>by
  rcases I.low b h with h | h
  ·exact h2 h
  ·omega
 refine ⟨fun b h1 h2 h3=>(sameNe (hk.keep b (Nat.lt_of_lt_of_le h1 I.size) (I.rd b h1 h2) (hn b h1 h2)) h3).trans (I.kept b h1 h2 h3),Nat.le_trans I.size hk.size,hk.os.trans I.os,hk.output.trans I.out,I.rd,.inl I.w6,fun b hb=>?_,h6,
  sameCh (hk.keep c (Nat.lt_of_lt_of_le X.clt I.size) (I.rd c X.clt (Ne.symm X.n6c)) (hn c X.clt (Ne.symm X.n6c))) I.hc⟩
 rcases hb with hb | hb
 ·exact I.low b hb
 ·rcases hx b hb with h | h
  ·exact I.low b h
  ·exact .inr (Nat.le_trans I.size h)
theorem PhI.view (X:PhX V wA p k ts vv rv s st b4 b5 b6 b7 c g cap D cur) (I:PhI wA b6 c D1 wr1 w):V.In w:=fun b o h=>by
 obtain ⟨h1,h2,h3⟩:=X.ne6 h
 rw [I.kept b h3 h1 h2]
 exact X.inA b o h
def ddl (b4 b5 b7 c g:Nat) (D E:List Nat):List Nat:=b4 :: b5 :: b7 :: c :: g :: (D ++ E)
structure PhE (wA:World) (D E:List Nat) (D1 wr1:Nat→Prop) (w:World):Prop where
 obj:∀ b∈E,D1 b∧¬ wr1 b∧wA.heap.size≤b∧∃ t∈D,w.heap[b]? = some (.cells #[ptr t] 124 (0,0))
theorem PhE.rely (X:PhX V wA p k ts vv rv s st b4 b5 b6 b7 c g cap D cur) {E:List Nat} (h:PhE wA D E D1 wr1 w) (hr:RelyW c (orS D1 wr1) w w1):PhE wA D E D1 wr1 w1 :=
 ⟨fun b hb=>by
  obtain ⟨h1,h2,h3,t,h4,h5⟩:=h.obj b hb
  exact ⟨h1,h2,h3,t,h4,(sameNe (hr.keep b (.inl h1)) (by rintro rfl;have:=X.clt;omega)).trans h5⟩⟩
structure PhW (wA:World) (WW:List Nat) (wr1:Nat→Prop) (w:World):Prop where
 obj:∀ b∈WW,wr1 b∧Wg.gN≤b∧∃ c t,w.heap[b]? = some (.cells c t (0,0))∧∀ v∈c,flat0 v=true
theorem phSeg (X:PhX V wA p k ts vv rv s st b4 b5 b6 b7 c g cap D cur) (I:PhI wA b6 c D1 wr1 w) {E WW:List Nat} (hE:PhE wA D E D1 wr1 w) (hW:PhW wA WW wr1 w) (hG:Wg.gN≤wA.heap.size):Seg Tryd.prog D1 wr1 (ddl b4 b5 b7 c g D E) WW w:=by
 have hin:=I.view X
 have m4:b4∈ddl b4 b5 b7 c g D E:=by simp [ddl]
 have mc:c∈ddl b4 b5 b7 c g D E:=by simp [ddl]
 have mD:∀ b∈D,b∈ddl b4 b5 b7 c g D E ++ WW:=fun b hb=>by simp [ddl,hb]
 have hvr:∀ {v:Value},flat0 v=true→VR1 (idR (ddl b4 b5 b7 c g D E ++ WW)) v v:=fun h=>.base (.flat (flat_of0 h))
 have hd1:∀ {b:Nat} {o:Obj},V b=some o→D1 b:=fun h=>I.rd _ (X.ne6 h).2.2 (X.ne6 h).1
 have hold:∀ b∈ddl b4 b5 b7 c g D E,D1 b∧¬ wr1 b:=fun b hb=>by
  have hlow:∀ {b:Nat},b < wA.heap.size→b≠b6→¬ wr1 b:=fun h1 h2 h=>by
   rcases I.low _ h with h | h
   ·exact h2 h
   ·omega
  have hv:∀ {b:Nat} {o:Obj},V b=some o→D1 b∧¬ wr1 b:=fun h=>⟨hd1 h,hlow (X.ne6 h).2.2 (X.ne6 h).1⟩
  simp only [ddl,List.mem_cons,List.mem_append] at hb
  rcases hb with rfl | rfl | rfl | rfl | rfl | hb | hb
  ·exact hv X.v4
  ·exact hv X.v5
  ·exact hv X.v7
  ·exact ⟨I.rd _ X.clt (Ne.symm X.n6c),hlow X.clt (Ne.symm X.n6c)⟩
  ·exact hv X.vg
  ·obtain ⟨cs,t,h1,_⟩:=X.cl.cells b hb
   exact hv h1
  ·obtain ⟨h1,h2,_⟩:=hE.obj b hb
   exact ⟨h1,h2⟩
 refine ⟨fun b hb=>.inl (hold b hb).1,fun b hb=>(hW.obj b hb).1,fun b hb hd=>(hold b hd).2 (hW.obj b hb).1,fun b hb=>?_,?_,fun b hb=>?_,fun b hb=>?_⟩
 ·rcases List.mem_append.1 hb with hb | hb
  ·simp only [ddl,List.mem_cons,List.mem_append] at hb
   obtain ⟨g1,g2,g3,g4,g5,g6⟩:=X.ge
   rcases hb with rfl | rfl | rfl | rfl | rfl | hb | hb
   ·exact g1
   ·exact g2
   ·exact g4
   ·exact g5
   ·exact g6
   ·exact X.cl.ge b hb
   ·exact Nat.le_trans hG (hE.obj b hb).2.2.1
  ·exact (hW.obj b hb).2.1
 ·exact Nat.le_trans hG I.size
 ·simp only [ddl,List.mem_cons,List.mem_append] at hb
  rcases hb with rfl | rfl | rfl | rfl | rfl | hb | hb
  ·exact .inl ⟨_,_,hin _ _ X.v4,fun v hv=>hvr (stC_flat s v (by simpa using hv))⟩
  ·exact .inl ⟨_,_,hin _ _ X.v5,fun v hv=>by
    have:v=.bool st:=by simpa using hv
    subst this
    exact .base (.flat rfl)⟩
  ·exact .inl ⟨_,_,hin _ _ X.v7,fun v hv=>by
    have:v=.chan (some c):=by simpa using hv
    subst this
    exact .base (.chan ⟨rfl,List.mem_append_left _ mc⟩)⟩
  ·exact .inr I.hc
  ·exact .inl ⟨_,_,hin _ _ X.vg,fun v hv=>vr1_self mD (X.curD v hv)⟩
  ·obtain ⟨cs,t,h1,h2⟩:=X.cl.cells b hb
   exact .inl ⟨_,_,hin _ _ h1,fun v hv=>vr1_self mD (h2 v hv)⟩
  ·obtain ⟨_,_,_,t,ht,h5⟩:=hE.obj b hb
   exact .inl ⟨_,_,h5,fun v hv=>by
    have:v=ptr t:=by simpa using hv
    subst this
    exact vr1_self mD (.inr (.inl ⟨_,_,rfl,ht⟩))⟩
 ·obtain ⟨_,_,cs,t,h1,h2⟩:=hW.obj b hb
  exact ⟨cs,t,h1,fun v hv=>hvr (h2 v hv)⟩
noncomputable def lv (DD WW:List Nat) (w:World):View:=fun b=>if b∈DD ++ WW then (frzW DD w).heap[b]? else none
theorem lv_in (DD WW:List Nat) (w:World) (τ:Nat→Question→Nat) (d:Nat):(lv DD WW w).In ((frzW DD w).re τ d):=fun b o h=>by
 unfold lv at h
 split at h
 ·exact h
 ·cases h
theorem lv_cell {DD WW:List Nat} {w:World} {b i:Nat} {v:Value} {cs:Array Value} {t:TypeId} {fr:Nat × Nat} (hb:b∈DD ++ WW) (h:w.heap[b]? = some (.cells cs t fr)) (hi:cs[i]? = some v):(lv DD WW w).Cell b i v:=by
 by_cases hd:b∈DD
 ·exact ⟨cs,t,(0,cs.size),by simp only [lv,hb,if_true];rw [frzW_get,h];simp [hd,frzO],hi⟩
 ·exact ⟨cs,t,fr,by simp only [lv,hb,if_true];rw [frzW_get,h];simp [hd],hi⟩
theorem lv_own {DD WW:List Nat} {w:World} {b:Nat} (hd:b ∉ DD):(frzW DD w).heap[b]? = w.heap[b]?:=by
 rw [frzW_get]
 cases w.heap[b]? with
 | none=>rfl
 | some o=>simp [hd]
end
end Go.Proofs.YtjjmefieegcddaaDoor
namespace Go.Proofs.YtjjmefieegcddaaDoor
open Go.RowKit Go.Wg Go.Mm Go.Wk
open Go Go.Sr Go.Ph Go.Tm Go.Conc
section
variable {V:View} {wA w w1 w2:World} {p:Nat} {k:Wk} {ts:List Nat} {vv rv:Value} {s:SS} {st:Bool} {b4 b5 b6 b7 c g cap:Nat} {D:List Nat} {cur:Array Value} {D1 wr1 x:Nat→Prop} {E WW:List Nat}
theorem phLone (X:PhX V wA p k ts vv rv s st b4 b5 b6 b7 c g cap D cur) (I:PhI wA b6 c D1 wr1 w) (hE:PhE wA D E D1 wr1 w) (hW:PhW wA WW wr1 w) (hG:Wg.gN≤wA.heap.size) (hh:HeapOk OC w)
  {tm:Array Value} {todo tgt:List Item} (hit:todo.all itemB=true) (hself:∀ v∈tm,VR (idR (ddl b4 b5 b7 c g D E ++ WW)) v v) {b:Frame} (hbf:b.fn=97) (hbk:b.kind=.normal) {cs:List Frame} {vs:List Value} {Q:PostC}
  {S:Act→World→Prop} (hre:∀ a w τ d,S a w→S a (w.re τ d)) (hrun:∀ τ d,Rch Tryd.prog tgt S todo ⟨tm,[]⟩ ((frzW (ddl b4 b5 b7 c g D E) w).re τ d))
  (hk:∀ R' a' a2 wl w2,S a' wl→le (idR (ddl b4 b5 b7 c g D E ++ WW)) R'→AF (VR R') a'.tmps a2.tmps→a2.defers=[]→WR Tryd.prog.globals.size R' (inL (ddl b4 b5 b7 c g D E)) wl w2→KeptW c D1 wr1 w w2 →
   (∀ b,own (inL (ddl b4 b5 b7 c g D E)) R' b→wr1 b∨w.heap.size≤b)→ToC Tryd.prog c D1 (fun b=>wr1 b∨own (inL (ddl b4 b5 b7 c g D E)) R' b) vs (G (b.at a2 tgt) cs) w2 Q) :
  ToC Tryd.prog c D1 wr1 vs (G (b.at ⟨tm,[]⟩ todo) cs) w Q:=by
 have hi:=items_of hit
 have hst:Stk 97 (b.at ⟨tm,[]⟩ todo) []:=⟨⟨fun x hx=>(hi x hx).2,(fun d hd=>nomatch hd),.inl hbk⟩,rfl,hbk,hbf⟩
 have hsr:FrR Tryd.prog (idR (ddl b4 b5 b7 c g D E ++ WW)) (b.at ⟨tm,[]⟩ todo) (b.at ⟨tm,[]⟩ todo):=frR_self rfl hself (fun x hx=>(hi x hx).1) hbk fun fn hfn=>by
  rw [hbf,Tryd.func97] at hfn
  cases hfn
  exact (show Tryd.f97.results.size≤1 by decide)
 refine toC_lone sokC sokAll (phSeg X I hE hW hG) hh hst hsr (S:=fun a t w=>t=tgt∧S a w) (fun a t w τ d h=>⟨h.1,hre _ _ _ _ h.2⟩) (fun τ d=>?_) fun R' a' a2 todo' wl w2 hs hle hAF hdf hWR hkept hfr _=>?_
 ·obtain ⟨a',w',h1,h2⟩:=hrun τ d b [floor Tryd.prog] hbk
  exact ⟨a',tgt,w',⟨rfl,h1⟩,h2⟩
 ·obtain ⟨rfl,hs⟩:=hs
  exact hk R' a' a2 wl w2 hs hle hAF hdf hWR hkept hfr
theorem vr_ptr {R:BR} {b:Nat} {v:Value} (h:VR R (ptr b) v):∃ b',v=ptr b'∧R b b':=by
 unfold ptr at h
 cases h with
 | base h =>
  cases h with
  | base h =>
   cases h with
   | flat h=>cases h
   | ptr h =>
    rename_i a'
    obtain ⟨h1,h2,h3⟩:=h
    obtain ⟨b',o',sp'⟩:=a'
    simp only at h1 h2 h3
    subst h2
    subst h3
    exact ⟨b',rfl,h1⟩
theorem tm1_self (X:PhX V wA p k ts vv rv s st b4 b5 b6 b7 c g cap D cur) {n i:Nat} {x10 x18 x19 x20 x21 x22:Value} (h6:b6∈WW) (hx:∀ v∈[x10,x18,x19,x20,x21,x22],VR (idR (ddl b4 b5 b7 c g D E ++ WW)) v v) :
  ∀ v∈tm1 p s st b4 b5 b6 b7 c (.slice (some ⟨g,0,none⟩) n cap) n i x10 x18 x19 x20 x21 x22,VR (idR (ddl b4 b5 b7 c g D E ++ WW)) v v:=by
 have hu:VR (idR (ddl b4 b5 b7 c g D E ++ WW)) undef undef:=.of_flat rfl
 have hp:VR (idR (ddl b4 b5 b7 c g D E ++ WW)) (ptr p) (ptr p):=fix_self (.ptr (by simp [ddl,X.pD]))
 have hst:VR (idR (ddl b4 b5 b7 c g D E ++ WW)) (.agg (stC s).toArray) (.agg (stC s).toArray):=fix_self (.agg fun v hv=>flat_of0 (stC_flat s v (by simpa using hv)))
 have hb:VR (idR (ddl b4 b5 b7 c g D E ++ WW)) (.bool st) (.bool st):=.of_flat rfl
 have h4:VR (idR (ddl b4 b5 b7 c g D E ++ WW)) (ptr b4) (ptr b4):=fix_self (.ptr (by simp [ddl]))
 have h5:VR (idR (ddl b4 b5 b7 c g D E ++ WW)) (ptr b5) (ptr b5):=fix_self (.ptr (by simp [ddl]))
 have h6':VR (idR (ddl b4 b5 b7 c g D E ++ WW)) (ptr b6) (ptr b6):=fix_self (.ptr (by simp [h6]))
 have h7:VR (idR (ddl b4 b5 b7 c g D E ++ WW)) (ptr b7) (ptr b7):=fix_self (.ptr (by simp [ddl]))
 have hsl:VR (idR (ddl b4 b5 b7 c g D E ++ WW)) (.slice (some ⟨g,0,none⟩) n cap) (.slice (some ⟨g,0,none⟩) n cap):=fix_self (.slice (by simp [ddl]))
 have hc:VR (idR (ddl b4 b5 b7 c g D E ++ WW)) (.chan (some c)) (.chan (some c)):=fix_self (.chan (by simp [ddl]))
 have hn:VR (idR (ddl b4 b5 b7 c g D E ++ WW)) (.int .i64 n) (.int .i64 n):=.of_flat rfl
 have hi:VR (idR (ddl b4 b5 b7 c g D E ++ WW)) (.int .i64 i) (.int .i64 i):=.of_flat rfl
 simp only [List.mem_cons,List.not_mem_nil,or_false,forall_eq_or_imp,forall_eq] at hx
 obtain ⟨y10,y18,y19,y20,y21,y22⟩:=hx
 intro v hv
 simp only [tm1,List.mem_toArray,List.mem_cons,List.not_mem_nil,or_false] at hv
 rcases hv with rfl | rfl | rfl | rfl | rfl | rfl | rfl | rfl | rfl | rfl | rfl | rfl | rfl | rfl | rfl | rfl | rfl | rfl | rfl | rfl | rfl | rfl | rfl | rfl | rfl | rfl | rfl | rfl | rfl | rfl | rfl | rfl | rfl
 all_goals assumption
end
end Go.Proofs.YtjjmefieegcddaaDoor
namespace Go.Proofs.YtjjmefieegcddaaDoor
open Go.RowKit Go.Wg Go.Mm Go.Wk
open Go Go.Sr Go.Ph Go.Tm Go.Conc
def valsTo (k:Wk) (s:SS) (st:Bool) (i:Nat):List Value:=((k.sources.take i).map fun x=>spanV (foundS k s st x)).reverse
theorem valsTo_succ (k:Wk) (s:SS) (st:Bool) {i x:Nat} (h:k.sources[i]? = some x):valsTo k s st (i+1)=spanV (foundS k s st x) :: valsTo k s st i:=by
 unfold valsTo
 rw [List.take_add_one,h]
 simp
section
variable {V:View} {wA w w1 w2:World} {p:Nat} {k:Wk} {ts:List Nat} {vv rv:Value} {s:SS} {st:Bool} {b4 b5 b6 b7 c g cap:Nat} {D:List Nat} {cur:Array Value} {D1 wr1 x:Nat→Prop} {E WW:List Nat}
theorem vr_fun4 {R:BR} {x0 x1 x2 x3 y0:Value} {f:FuncId} {v:Value} (h:VR R (.func (.func f) #[] #[x0,x1,x2,x3]) v) (h0:∀ v,VR R x0 v→v=y0) (h1:∀ v,VR R x1 v→v=x1) (h2:∀ v,VR R x2 v→v=x2) (h3:∀ v,VR R x3 v→v=x3) :
  v=.func (.func f) #[] #[y0,x1,x2,x3]:=by
 cases h with
 | base h =>
  cases h with
  | base h =>
   cases h with
   | flat h=>cases h
  | func k0 k1 k2 k3 k4 =>
   rename_i a' c'
   have e1:a'=#[]:=Array.eq_empty_of_size_eq_zero (by simpa using k1)
   have k3':c'.size=4:=by simpa using k3
   subst e1
   congr 1
   apply Array.ext
   ·simpa using k3'
   ·intro j i1 i2
    have hj:j=0∨j=1∨j=2∨j=3:=by omega
    rcases hj with rfl | rfl | rfl | rfl
    ·exact h0 _ (k4 0 _ _ rfl (Array.getElem?_eq_getElem i1))
    ·exact h1 _ (k4 1 _ _ rfl (Array.getElem?_eq_getElem i1))
    ·exact h2 _ (k4 2 _ _ rfl (Array.getElem?_eq_getElem i1))
    ·exact h3 _ (k4 3 _ _ rfl (Array.getElem?_eq_getElem i1))
theorem phSeg_lt (X:PhX V wA p k ts vv rv s st b4 b5 b6 b7 c g cap D cur) (I:PhI wA b6 c D1 wr1 w) (hE:PhE wA D E D1 wr1 w) (hW:PhW wA WW wr1 w) (hG:Wg.gN≤wA.heap.size):∀ b∈ddl b4 b5 b7 c g D E,b < w.heap.size:=fun b hb=>by
 rcases (phSeg X I hE hW hG).obj b hb with ⟨_,_,h,_⟩ | ⟨_,h,_⟩ <;> exact lt_of_heap h
theorem ph6 (X:PhX V wA p k ts vv rv s st b4 b5 b6 b7 c g cap D cur) (I:PhI wA b6 c D1 wr1 w):PhW wA [b6] wr1 w:=⟨fun b hb=>by
 simp only [List.mem_singleton] at hb
 subst hb
 exact ⟨I.w6,X.ge.2.2.1,_,_,I.h6,by simp [flat0]⟩⟩
theorem ph6_not (X:PhX V wA p k ts vv rv s st b4 b5 b6 b7 c g cap D cur) (I:PhI wA b6 c D1 wr1 w) (hE:PhE wA D E D1 wr1 w) (hG:Wg.gN≤wA.heap.size):b6 ∉ ddl b4 b5 b7 c g D E:=(phSeg X I hE (ph6 X I) hG).dis b6 (by simp)
theorem ph6_after {R':BR} {wl:World} {DD WW:List Nat} (hWR:WR Tryd.prog.globals.size R' (inL DD) wl w2) (hle:le (idR (DD ++ WW)) R') (hm:b6∈WW) (hn:b6 ∉ DD) (h6l:wl.heap[b6]? = some (.cells #[.int .i64 0,.int .i64 0] 27 (0,0))) :
  w2.heap[b6]? = some (.cells #[.int .i64 0,.int .i64 0] 27 (0,0)):=by
 obtain ⟨c6,hc6,hAF6⟩:=new_block hWR (hle b6 b6 ⟨rfl,List.mem_append_right _ hm⟩) hn h6l
 rw [af1_fix (keep_id hWR hle) hAF6 (fun v hv=>by
  have:v=.int .i64 0:=by simpa using hv
  subst this
  exact .flat rfl)] at hc6
 exact hc6
theorem sources_lt {i x:Nat} (h:k.sources[i]? = some x):x < k.n:=List.mem_range.1 (List.mem_filter.1 (List.mem_of_getElem? h)).1
theorem run_go1 {o:Oper} {a:Act} {x:Operand} {t:Fn} {f c:Array Value} (ho:o.op=.go { callee:=.value x,args:=#[],argTypes:=#[] }) (hx:a.eval x=.func t f c) (w:World) :
  (execOp a.eval o).run Tryd.prog w=.ok (.spawn { target:=.fn t c,args:=f }) w:=by
 unfold execOp
 simp [ho,resolve,hx,Deferred.ofValue]
set_option maxRecDepth 20000 in
set_option maxHeartbeats 2000000 in
theorem loop1 (X:PhX V wA p k ts vv rv s st b4 b5 b6 b7 c g cap D cur) (hG:Wg.gN≤wA.heap.size) {b:Frame} (hbf:b.fn=97) (hbk:b.kind=.normal) {cs:List Frame} {Q:PostC}
  (hend:∀ D1 wr1 w x10 x18 x19 x20 x21 x22 E,PhI wA b6 c D1 wr1 w→PhE wA D E D1 wr1 w→Sr.flat x22=true→(∀ v∈[x10,x18,x19,x20,x21,x22],VR (idR (ddl b4 b5 b7 c g D E ++ [b6])) v v) →
   ToC Tryd.prog c D1 wr1 (valsTo k s st k.sources.length) (G (b.at ⟨tm1 p s st b4 b5 b6 b7 c (.slice (some ⟨g,0,none⟩) k.sources.length cap) k.sources.length k.sources.length x10 x18 x19 x20 x21 x22,[]⟩ head1) cs) w Q) :
  ∀ (m i:Nat),i+m=k.sources.length→∀ D1 wr1 w x10 x18 x19 x20 x21 x22 E,PhI wA b6 c D1 wr1 w→PhE wA D E D1 wr1 w→Sr.flat x22=true→(∀ v∈[x10,x18,x19,x20,x21,x22],VR (idR (ddl b4 b5 b7 c g D E ++ [b6])) v v) →
   ToC Tryd.prog c D1 wr1 (valsTo k s st i) (G (b.at ⟨tm1 p s st b4 b5 b6 b7 c (.slice (some ⟨g,0,none⟩) k.sources.length cap) k.sources.length i x10 x18 x19 x20 x21 x22,[]⟩ head1) cs) w Q:=by
 intro m
 induction m with
 | zero =>
  intro i hi D1 wr1 w x10 x18 x19 x20 x21 x22 E I hE h22 hx
  obtain rfl:i=k.sources.length:=by omega
  exact hend D1 wr1 w x10 x18 x19 x20 x21 x22 E I hE h22 hx
 | succ m ih =>
  intro i hi D1 wr1 w x10 x18 x19 x20 x21 x22 E I hE h22 hx
  have hlt:i < k.sources.length:=by omega
  refine toC_ok fun w1 hr1 hh1 hc1=>?_
  replace I:=I.rely X hr1
  replace hE:=hE.rely X hr1
  clear hr1 hc1 w
  obtain ⟨sx,hsx⟩:∃ sx,k.sources[i]? = some sx:=⟨_,List.getElem?_eq_getElem hlt⟩
  have hcur:=X.src i sx hsx
  obtain ⟨t,ht⟩:∃ t,ts.getD sx 0=t:=⟨_,rfl⟩
  rw [ht] at hcur
  have htD:t∈D:=by
   have:=X.curD _ (Array.mem_of_getElem? hcur)
   exact inD_ptr this
  have hW:=ph6 X I
  have hn6:=ph6_not X I hE hG
  have hlts:=phSeg_lt X I hE hW hG
  have sf:=tm1_self (E:=E) (WW:=[b6]) (n:=k.sources.length) (i:=i) X (by simp) hx
  refine phLone (tgt:=atGo [1]) X I hE hW hG hh1 it_head1 sf hbf hbk
   (S:=fun a w'=>∃ b10,a=⟨tm1 p s st b4 b5 b6 b7 c (.slice (some ⟨g,0,none⟩) k.sources.length cap) k.sources.length i (ptr b10) (.bool true) (.pointer (some ⟨g,i,none⟩)) (ptr t) (.func (.func 123) #[] #[ptr b10,ptr b4,ptr b5,ptr b7]) x22,[]⟩ ∧
    w'.heap[b10]? = some (.cells #[ptr t] 124 (0,0))∧w1.heap.size≤b10∧w'.heap[b6]? = some (.cells #[.int .i64 0,.int .i64 0] 27 (0,0)))
   (fun _ _ _ _ h=>h) (fun τ d=>?_) ?_
  ·have hg:(lv (ddl b4 b5 b7 c g D E) [b6] w1).Cell g i (ptr t):=lv_cell (by simp [ddl]) (I.view X g _ X.vg) hcur
   refine (seg1 p s st b4 b5 b6 b7 c g cap k.sources.length i t x10 x18 x19 x20 x21 x22 hlt X.n6 hg _ (lv_in _ [b6] w1 τ d)).mono ?_
   rintro a w' ⟨b10,rfl,hS⟩
   have hl6:(lv (ddl b4 b5 b7 c g D E) [b6] w1) b6=some (.cells #[.int .i64 0,.int .i64 0] 27 (0,0)):=by
    simp only [lv,List.mem_append,List.mem_singleton,or_true,if_true]
    rw [lv_own (WW:=[]) hn6]
    exact I.h6
   have hb:=(hS.new (.blk b10 124 [ptr t]) (by simp) b10 rfl).elim id (fun h=>nomatch h)
   refine ⟨b10,rfl,hS.has1,?_,hS.view _ _ hl6⟩
   have e:((frzW (ddl b4 b5 b7 c g D E) w1).re τ d).heap.size=w1.heap.size:=frzW_size _ _
   omega
  ·rintro R' a' a2 wl w2 ⟨b10,rfl,h10,l10,h6l⟩ hle hAF hdf hWR hkept hfr
   have hfx:=keep_id hWR hle
   obtain ⟨v10,hv10,r10⟩:=hAF.2 10 (ptr b10) rfl
   obtain ⟨bt,rfl,rbt⟩:=vr_ptr r10
   have nD:¬ inL (ddl b4 b5 b7 c g D E) b10:=fun h=>by
    have:=hlts b10 h
    omega
   obtain ⟨c',hc',hAF1⟩:=new_block hWR rbt nD h10
   have ec:c'=#[ptr t]:=af1_fix hfx hAF1 fun v hv=>by
    have:v=ptr t:=by simpa using hv
    subst this
    exact .ptr (by simp [ddl,htD])
   subst ec
   have h62:=ph6_after hWR hle (by simp) hn6 h6l
   have obt:own (inL (ddl b4 b5 b7 c g D E)) R' bt:=⟨b10,rbt,nD⟩
   have lbt:wA.heap.size≤bt:=by
    rcases hfr bt obt with h | h
    ·rcases I.low bt h with h | h
     ·subst h
      have e:=hWR.inj b10 bt bt rbt (hle bt bt ⟨rfl,by simp⟩)
      have h1:=lt_of_heap I.h6
      omega
     ·exact h
    ·exact Nat.le_trans I.size h
   have hb:∀ v',VR R' (ptr b10) v'→v'=ptr bt:=fun v' h=>by
    obtain ⟨b',rfl,hb'⟩:=vr_ptr h
    rw [hWR.fn _ _ _ hb' rbt]
   have hsame:∀ {b:Nat},b∈ddl b4 b5 b7 c g D E→∀ v',VR R' (ptr b) v'→v'=ptr b:=fun hb v' h=>vr_same hfx (fix_self (.ptr (List.mem_append_left _ hb))) h
   have hf:∀ v',VR R' (.func (.func 123) #[] #[ptr b10,ptr b4,ptr b5,ptr b7]) v'→v'=.func (.func 123) #[] #[ptr bt,ptr b4,ptr b5,ptr b7]:=fun v' h=>vr_fun4 h hb (hsame (by simp [ddl])) (hsame (by simp [ddl])) (hsame (by simp [ddl]))
   have hall:AllEq R' (tm1 p s st b4 b5 b6 b7 c (.slice (some ⟨g,0,none⟩) k.sources.length cap) k.sources.length i (ptr b10) (.bool true) (.pointer (some ⟨g,i,none⟩)) (ptr t) (.func (.func 123) #[] #[ptr b10,ptr b4,ptr b5,ptr b7]) x22).toList
     (tm1 p s st b4 b5 b6 b7 c (.slice (some ⟨g,0,none⟩) k.sources.length cap) k.sources.length i (ptr bt) (.bool true) (.pointer (some ⟨g,i,none⟩)) (ptr t) (.func (.func 123) #[] #[ptr bt,ptr b4,ptr b5,ptr b7]) x22).toList :=
    ⟨fun v' h=>vr_same hfx (sf _ (by simp [tm1])) h,fun v' h=>vr_same hfx (sf _ (by simp [tm1])) h,fun v' h=>vr_same hfx (sf _ (by simp [tm1])) h,fun v' h=>vr_same hfx (sf _ (by simp [tm1])) h,fun v' h=>vr_same hfx (sf _ (by simp [tm1])) h,fun v' h=>vr_same hfx (sf _ (by simp [tm1])) h,fun v' h=>vr_same hfx (sf _ (by simp [tm1])) h,fun v' h=>vr_same hfx (sf _ (by simp [tm1])) h,fun v' h=>vr_same hfx (sf _ (by simp [tm1])) h,fun v' h=>vr_same hfx (sf _ (by simp [tm1])) h,hb,fun v' h=>vr_same hfx (sf _ (by simp [tm1])) h,fun v' h=>vr_same hfx (sf _ (by simp [tm1])) h,fun v' h=>vr_same hfx (sf _ (by simp [tm1])) h,fun v' h=>vr_same hfx (sf _ (by simp [tm1])) h,fun v' h=>vr_same hfx (sf _ (by simp [tm1])) h,fun v' h=>vr_same hfx (sf _ (by simp [tm1])) h,fun v' h=>vr_same hfx (sf _ (by simp [tm1])) h,fun v' h=>vr_same hfx (.of_flat rfl) h,fun v' h=>vr_same hfx (fix_self (.ptr (by simp [ddl]))) h,fun v' h=>vr_same hfx (fix_self (.ptr (by simp [ddl,htD]))) h,hf,fun v' h=>vr_same hfx (sf _ (by simp [tm1])) h,fun v' h=>vr_same hfx (sf _ (by simp [tm1])) h,fun v' h=>vr_same hfx (sf _ (by simp [tm1])) h,fun v' h=>vr_same hfx (sf _ (by simp [tm1])) h,fun v' h=>vr_same hfx (sf _ (by simp [tm1])) h,fun v' h=>vr_same hfx (sf _ (by simp [tm1])) h,fun v' h=>vr_same hfx (sf _ (by simp [tm1])) h,fun v' h=>vr_same hfx (sf _ (by simp [tm1])) h,fun v' h=>vr_same hfx (sf _ (by simp [tm1])) h,fun v' h=>vr_same hfx (sf _ (by simp [tm1])) h,fun v' h=>vr_same hfx (sf _ (by simp [tm1])) h,trivial⟩
   have htm:=tmps_eq hAF hall
   obtain ⟨tmps2,defers2⟩:=a2
   simp only at hdf htm
   subst hdf
   subst htm
   have I2:=I.after X hkept hfr h62
   obtain ⟨wr2,hwr2⟩:∃ wr2,(fun b=>wr1 b∨own (inL (ddl b4 b5 b7 c g D E)) R' b)=wr2:=⟨_,rfl⟩
   have wbt:wr2 bt:=by rw [← hwr2];exact .inr obt
   rw [hwr2] at I2 ⊢
   clear hwr2 hkept hfr hWR hAF hle hall hf hb hsame hv10 r10 h10 h6l l10 hfx rbt nD hAF1 obt hlts hn6 hW hh1 sf hx hE
   refine toC_ok fun w3 hr3 hh3 hc3=>?_
   have I3:=I2.rely X hr3
   have hbt:w3.heap[bt]? = some (.cells #[ptr t] 124 (0,0)):=(sameNe (hr3.keep bt (.inr wbt)) (by rintro rfl;have:=X.clt;omega)).trans hc'
   clear hr3 hc3
   obtain ⟨V',hV'⟩:∃ V':View,V'=fun b=>if b=bt then some (.cells #[ptr t] 124 (0,0)) else V b:=⟨_,rfl⟩
   have hVbt:V bt=none:=by
    cases hv:V bt with
    | none=>rfl
    | some o =>
     have:=(X.ne6 hv).2.2
     omega
   have hsub:∀ j o,V j=some o→V' j=some o:=fun j o h=>by
    subst hV'
    have:j≠bt:=by rintro rfl;rw [hVbt] at h;cases h
    simp only [this,if_false]
    exact h
   have hin:V'.In w3:=fun j o h=>by
    subst hV'
    simp only at h
    split at h
    ·rename_i e
     subst e
     cases h
     exact hbt
    ·exact I3.view X j o h
   have hwk:=worker_wt (w:=w3) (V:=V') p k ts vv rv (X.cel.mono hsub) X.ok s X.wf X.lo X.hi st sx (sources_lt hsx) D (closed_mono X.cl hsub) X.pD bt b4 b5 b7 c (by rw [ht,hV'];exact if_pos rfl) (hsub _ _ X.v4) (hsub _ _ X.v5) (hsub _ _ X.v7) I3.hc
    ⟨by omega,X.ge.1,X.ge.2.1,X.ge.2.2.2.1,X.ge.2.2.2.2.1⟩ hin hh3
   have hDc:∀ b,inL (bt :: b4 :: b5 :: b7 :: c :: D) b→b=bt∨(b < wA.heap.size∧b≠b6):=fun b hb=>by
    simp only [inL,List.mem_cons] at hb
    rcases hb with rfl | rfl | rfl | rfl | rfl | hb
    ·exact .inl rfl
    ·exact .inr ⟨(X.ne6 X.v4).2.2,(X.ne6 X.v4).1⟩
    ·exact .inr ⟨(X.ne6 X.v5).2.2,(X.ne6 X.v5).1⟩
    ·exact .inr ⟨(X.ne6 X.v7).2.2,(X.ne6 X.v7).1⟩
    ·exact .inr ⟨X.clt,Ne.symm X.n6c⟩
    ·obtain ⟨cs,t',h1,_⟩:=X.cl.cells b hb
     exact .inr ⟨(X.ne6 h1).2.2,(X.ne6 h1).1⟩
   have h6bt:b6≠bt:=by have:=X.v6lt;omega
   refine toC_spawn rfl fun w4 hr4=>⟨_,bornFr Tryd.prog [{ target:=.fn (.func 123) #[ptr bt,ptr b4,ptr b5,ptr b7],args:=#[] }],_,inL (bt :: b4 :: b5 :: b7 :: c :: D),fun b=>D1 b∨b=bt,fun b=>wr2 b∧b≠bt,spanV (foundS k s st sx),
    stepG_spawn (i:=1) rfl rfl (by simp [hbk]) (run_go1 (x:=.tmp 21) (t:=.func 123) (f:=#[]) (c:=#[ptr bt,ptr b4,ptr b5,ptr b7]) rfl rfl w4) rfl,?_,?_,?_,?_,hwk.rely (hr4.sub fun b hb=>?_),?_⟩
   ·intro e he
    unfold listed at he
    rw [show (execOp _ _).events Tryd.prog w4 #[]=#[] from rfl,seen_none] at he
    simp at he
   ·intro b hb
    rcases hDc b hb with rfl | ⟨h1,h2⟩
    ·exact .inr wbt
    ·exact .inl (I3.rd b h1 h2)
   ·rintro b ((h | rfl) | ⟨h,_⟩)
    ·exact .inl h
    ·exact .inr wbt
    ·exact .inr h
   ·rintro b ⟨h1,h2⟩
    refine ⟨h1,fun hb=>?_⟩
    rcases hDc b hb with h | ⟨h3,h4⟩
    ·exact h2 h
    ·rcases I3.low b h1 with h | h
     ·exact h4 h
     ·omega
   ·rcases hb with hb | hb
    ·rcases hDc b hb with rfl | ⟨h1,h2⟩
     ·exact .inr wbt
     ·exact .inl (I3.rd b h1 h2)
    ·exact hb.elim
   · -- behind it
    have I4:PhI wA b6 c (fun b=>D1 b∨b=bt) (fun b=>wr2 b∧b≠bt) w4:=by
     have h:=I3.rely X hr4
     exact ⟨h.kept,h.size,h.os,h.out,fun b h1 h2=>.inl (h.rd b h1 h2),⟨h.w6,h6bt⟩,fun b hb=>h.low b hb.1,h.h6,h.hc⟩
    have hbt4:w4.heap[bt]? = some (.cells #[ptr t] 124 (0,0)):=(sameNe (hr4.keep bt (.inr wbt)) (by rintro rfl;have:=X.clt;omega)).trans hbt
    have hE4:PhE wA D [bt] (fun b=>D1 b∨b=bt) (fun b=>wr2 b∧b≠bt) w4:=⟨fun b hb=>by
     simp only [List.mem_singleton] at hb
     subst hb
     exact ⟨.inr rfl,fun h=>h.2 rfl,lbt,t,htD,hbt4⟩⟩
    rw [← valsTo_succ k s st hsx]
    clear hwk hDc hin hsub hV' hVbt hbt hh3 I2 hbt4
    show ToC Tryd.prog c _ _ _ (G (b.at ⟨tm1 p s st b4 b5 b6 b7 c (.slice (some ⟨g,0,none⟩) k.sources.length cap) k.sources.length i (ptr bt) (.bool true) (.pointer (some ⟨g,i,none⟩)) (ptr t) (.func (.func 123) #[] #[ptr bt,ptr b4,ptr b5,ptr b7]) x22,[]⟩ (atGo [])) cs) w4 Q
    refine toC_ok fun w5 hr5 hh5 hc5=>?_
    replace I4:=I4.rely X hr5
    replace hE4:=hE4.rely X hr5
    clear hr5 hc5 hr4
    have m4:b4∈ddl b4 b5 b7 c g D [bt] ++ [b6]:=by simp [ddl]
    have m5:b5∈ddl b4 b5 b7 c g D [bt] ++ [b6]:=by simp [ddl]
    have m7:b7∈ddl b4 b5 b7 c g D [bt] ++ [b6]:=by simp [ddl]
    have mt:bt∈ddl b4 b5 b7 c g D [bt] ++ [b6]:=by simp [ddl]
    have hfn:VR (idR (ddl b4 b5 b7 c g D [bt] ++ [b6])) (.func (.func 123) #[] #[ptr bt,ptr b4,ptr b5,ptr b7]) (.func (.func 123) #[] #[ptr bt,ptr b4,ptr b5,ptr b7]) :=
     .base (.ofFunc rfl ⟨rfl,fun i v h=>⟨v,h,by simp at h⟩⟩ ⟨rfl,fun i v h=>⟨v,h,by
      have:=Array.mem_of_getElem? h
      simp only [List.mem_toArray,List.mem_cons,List.not_mem_nil,or_false] at this
      rcases this with rfl | rfl | rfl | rfl
      ·exact fix_self (.ptr mt)
      ·exact fix_self (.ptr m4)
      ·exact fix_self (.ptr m5)
      ·exact fix_self (.ptr m7)⟩⟩)
    have hx5:∀ y:Value,Sr.flat y=true→∀ v∈[ptr bt,.bool true,.pointer (some ⟨g,i,none⟩),ptr t,.func (.func 123) #[] #[ptr bt,ptr b4,ptr b5,ptr b7],y],VR (idR (ddl b4 b5 b7 c g D [bt] ++ [b6])) v v:=fun y hy v hv=>by
     simp only [List.mem_cons,List.not_mem_nil,or_false] at hv
     rcases hv with rfl | rfl | rfl | rfl | rfl | rfl
     ·exact fix_self (.ptr mt)
     ·exact .of_flat rfl
     ·exact fix_self (.ptr (by simp [ddl]))
     ·exact fix_self (.ptr (by simp [ddl,htD]))
     ·exact hfn
     ·exact .of_flat hy
    have hn6':=ph6_not X I4 hE4 hG
    refine phLone (tgt:=head1) X I4 hE4 (ph6 X I4) hG hh5 (it_atGo []) (tm1_self X (by simp) (hx5 x22 h22)) hbf hbk
     (S:=fun a w'=>a=⟨tm1 p s st b4 b5 b6 b7 c (.slice (some ⟨g,0,none⟩) k.sources.length cap) k.sources.length (i+1) (ptr bt) (.bool true) (.pointer (some ⟨g,i,none⟩)) (ptr t) (.func (.func 123) #[] #[ptr bt,ptr b4,ptr b5,ptr b7]) (.int .i64 ((i+1:Nat):Int)),[]⟩ ∧
      w'.heap[b6]? = some (.cells #[.int .i64 0,.int .i64 0] 27 (0,0))) (fun _ _ _ _ h=>h) (fun τ d=>?_) ?_
    ·refine (seg2 p s st b4 b5 b6 b7 c k.sources.length i _ _ _ _ _ _ x22 hlt X.n6 _ (lv_in (ddl b4 b5 b7 c g D [bt]) [b6] w5 τ d)).mono ?_
     rintro a w' ⟨rfl,hS⟩
     have hl6:(lv (ddl b4 b5 b7 c g D [bt]) [b6] w5) b6=some (.cells #[.int .i64 0,.int .i64 0] 27 (0,0)):=by
      simp only [lv,List.mem_append,List.mem_singleton,or_true,if_true]
      rw [lv_own (WW:=[]) hn6']
      exact I4.h6
     exact ⟨rfl,hS.view _ _ hl6⟩
    ·rintro R'' a' a2 wl w6 ⟨rfl,h6l⟩ hle hAF hdf hWR hkept hfr
     have hfx:=keep_id hWR hle
     have htm:=tmps_eq hAF (all_self (fun v hv=>tm1_self X (by simp) (hx5 _ rfl) v (by simpa using hv)) hfx)
     obtain ⟨tmps2,defers2⟩:=a2
     simp only [Array.toArray_toList] at hdf htm
     subst hdf
     subst htm
     have h62':=ph6_after hWR hle (by simp) hn6' h6l
     have I5:=I4.after X hkept hfr h62'
     refine ih (i+1) (by omega) _ _ _ _ _ _ _ _ _ [bt] I5 ⟨fun e he=>?_⟩ rfl (hx5 _ rfl)
     obtain ⟨q1,q2,q3,t',q4,q5⟩:=hE4.obj e he
     refine ⟨q1,fun h=>?_,q3,t',q4,(sameNe (hkept.keep e (lt_of_heap q5) q1 q2) (by rintro rfl;have:=X.clt;omega)).trans q5⟩
     rcases h with h | ⟨y,hy,hny⟩
     ·exact q2 h
     ·have hm:e∈ddl b4 b5 b7 c g D [bt] ++ [b6]:=by simp only [List.mem_singleton] at he;subst he;exact mt
      have:=hWR.inj y e e hy (hle e e ⟨rfl,hm⟩)
      subst this
      simp only [List.mem_singleton] at he
      subst he
      exact hny (by simp [inL,ddl])
end
end Go.Proofs.YtjjmefieegcddaaDoor
namespace Go.Proofs.YtjjmefieegcddaaDoor
open Go.RowKit Go.Wg Go.Mm Go.Wk
open Go Go.Sr Go.Ph Go.Tm Go.Conc
theorem toC_draw {c:Nat} {D0 wr0:Nat→Prop} {vs:List Value} {w:World} {Q:PostC} {b:Frame} {a:Act} {k:List Item} {cs:List Frame} {id:Nat} {ops:Array Oper} (h:∀ l∈orders ops,ToC Tryd.prog c D0 wr0 vs (G (b.at a (.inRegion ops l :: k)) cs) w Q) :
  ToC Tryd.prog c D0 wr0 vs (G (b.at a (.code (.region id ops true) :: k)) cs) w Q:=by
 have hm:Tryd.prog.follows .mixedOrders=true:=by kernel_rfl
 refine toC_step fun w1 hr=>⟨b.at a (.inRegion ops (Region.schedule true ops (w1.tape w1.drawn (.order b.fn id))) :: k),w1.at (w1.drawn+1),#[],wr0,fun main cs'=>?_,by simp,⟨Nat.le_refl _,fun _ _ _=>rfl,rfl,rfl,rfl,fun _ h=>h⟩,⟨fun _ h=>h,fun _ h=>.inl h⟩,
  ((h _ (schedule_mem ops _)).rely hr).rely (.at _ w1 _)⟩
 simp [G,stepG,stepG.exec,Frame.at,choose,Sem.run,Question.forced,Question.cut,World.at,hm]
theorem run_recv27 {o:Oper} {a:Act} {x:Operand} {c:Nat} (ho:o.op=.recv 165 x false) (hx:a.eval x=.chan (some c)):∃ z,∀ w,(execOp a.eval o).run Tryd.prog w=.ok (.comm #[rcase c z] true (.recv false)) w:=by
 have hi:((Tryd.prog.info? 27).bind (·.zero)).isSome=true:=by kernel_rfl
 cases hq:Tryd.prog.info? 27 with
 | none=>rw [hq] at hi;cases hi
 | some i =>
  rw [hq] at hi
  cases hz:i.zero with
  | none=>simp [hz] at hi
  | some z =>
   refine ⟨z,fun w=>?_⟩
   unfold execOp
   simp [ho,hx,Go.underlying,Tryd.underlying165,Go.zeroValue,Go.typeInfo,hq,hz,rcase]
theorem events_recv27 {o:Oper} {a:Act} {x:Operand} (ho:o.op=.recv 165 x false) (w:World):(execOp a.eval o).events Tryd.prog w #[]=#[]:=by
 unfold execOp
 simp [ho]
section
variable {V:View} {wA w w1 w2:World} {p:Nat} {k:Wk} {ts:List Nat} {vv rv:Value} {s:SS} {st:Bool} {b4 b5 b6 b7 c g cap bo:Nat} {D:List Nat} {cur:Array Value} {D1 wr1 x:Nat→Prop} {E WW:List Nat}
theorem own_after {R':BR} {wl:World} {DD WW:List Nat} {b:Nat} (hWR:WR Tryd.prog.globals.size R' (inL DD) wl w2) (hle:le (idR (DD ++ WW)) R') (hm:b∈WW) (hn:b ∉ DD) {cs:Array Value} {t:TypeId} (hc:∀ v∈cs,flat0 v=true) (hl:wl.heap[b]? = some (.cells cs t (0,0))) :
  w2.heap[b]? = some (.cells cs t (0,0)):=by
 obtain ⟨c6,hc6,hAF6⟩:=new_block hWR (hle b b ⟨rfl,List.mem_append_right _ hm⟩) hn hl
 rw [af1_fix (keep_id hWR hle) hAF6 (fun v hv=>.flat (flat_of0 (hc v hv)))] at hc6
 exact hc6
theorem PhE.after (X:PhX V wA p k ts vv rv s st b4 b5 b6 b7 c g cap D cur) (hE:PhE wA D E D1 wr1 w) (hk:KeptW c D1 wr1 w w2) {R':BR} {wl:World} (hWR:WR Tryd.prog.globals.size R' (inL (ddl b4 b5 b7 c g D E)) wl w2) (hle:le (idR (ddl b4 b5 b7 c g D E ++ WW)) R') :
  PhE wA D E D1 (fun b=>wr1 b∨own (inL (ddl b4 b5 b7 c g D E)) R' b) w2:=⟨fun e he=>by
 obtain ⟨q1,q2,q3,t',q4,q5⟩:=hE.obj e he
 refine ⟨q1,fun h=>?_,q3,t',q4,(sameNe (hk.keep e (lt_of_heap q5) q1 q2) (by rintro rfl;have:=X.clt;omega)).trans q5⟩
 rcases h with h | ⟨y,hy,hny⟩
 ·exact q2 h
 ·have hm:e∈ddl b4 b5 b7 c g D E:=by simp [ddl,he]
  have:=hWR.inj y e e hy (hle e e ⟨rfl,List.mem_append_left _ hm⟩)
  subst this
  exact hny hm⟩
structure PhO (wA:World) (b6 bo:Nat) (acc:Int × Int) (wr1:Nat→Prop) (w:World):Prop where
 wr:wr1 bo
 ge:wA.heap.size≤bo
 obj:w.heap[bo]? = some (.cells #[.int .i64 acc.1,.int .i64 acc.2] 27 (0,0))
theorem PhO.rely (X:PhX V wA p k ts vv rv s st b4 b5 b6 b7 c g cap D cur) {acc:Int × Int} (h:PhO wA b6 bo acc wr1 w) (hr:RelyW c (orS D1 wr1) w w1):PhO wA b6 bo acc wr1 w1 :=
 ⟨h.wr,h.ge,(sameNe (hr.keep bo (.inr h.wr)) (by rintro rfl;have:=X.clt;have:=h.ge;omega)).trans h.obj⟩
theorem phW2 (X:PhX V wA p k ts vv rv s st b4 b5 b6 b7 c g cap D cur) (I:PhI wA b6 c D1 wr1 w) {acc:Int × Int} (O:PhO wA b6 bo acc wr1 w) (hG:Wg.gN≤wA.heap.size):PhW wA [b6,bo] wr1 w:=⟨fun b hb=>by
 simp only [List.mem_cons,List.not_mem_nil,or_false] at hb
 rcases hb with rfl | rfl
 ·exact ⟨I.w6,X.ge.2.2.1,_,_,I.h6,by simp [flat0]⟩
 ·exact ⟨O.wr,Nat.le_trans hG O.ge,_,_,O.obj,by simp [flat0]⟩⟩
theorem tm2_self (X:PhX V wA p k ts vv rv s st b4 b5 b6 b7 c g cap D cur) {n i j:Nat} {x10 x18 x19 x20 x21 x22 x26 x27 x28 x29 x30 x31:Value} (h6:b6∈WW) (ho:bo∈WW) (hx:∀ v∈[x10,x18,x19,x20,x21,x22,x26,x27,x28,x29,x30,x31],VR (idR (ddl b4 b5 b7 c g D E ++ WW)) v v) :
  ∀ v∈tm2 p s st b4 b5 b6 b7 c bo (.slice (some ⟨g,0,none⟩) n cap) n i j x10 x18 x19 x20 x21 x22 x26 x27 x28 x29 x30 x31,VR (idR (ddl b4 b5 b7 c g D E ++ WW)) v v:=by
 have hu:VR (idR (ddl b4 b5 b7 c g D E ++ WW)) undef undef:=.of_flat rfl
 have hp:VR (idR (ddl b4 b5 b7 c g D E ++ WW)) (ptr p) (ptr p):=fix_self (.ptr (by simp [ddl,X.pD]))
 have hst:VR (idR (ddl b4 b5 b7 c g D E ++ WW)) (.agg (stC s).toArray) (.agg (stC s).toArray):=fix_self (.agg fun v hv=>flat_of0 (stC_flat s v (by simpa using hv)))
 have hb:VR (idR (ddl b4 b5 b7 c g D E ++ WW)) (.bool st) (.bool st):=.of_flat rfl
 have h4:VR (idR (ddl b4 b5 b7 c g D E ++ WW)) (ptr b4) (ptr b4):=fix_self (.ptr (by simp [ddl]))
 have h5:VR (idR (ddl b4 b5 b7 c g D E ++ WW)) (ptr b5) (ptr b5):=fix_self (.ptr (by simp [ddl]))
 have h6':VR (idR (ddl b4 b5 b7 c g D E ++ WW)) (ptr b6) (ptr b6):=fix_self (.ptr (by simp [h6]))
 have ho':VR (idR (ddl b4 b5 b7 c g D E ++ WW)) (ptr bo) (ptr bo):=fix_self (.ptr (by simp [ho]))
 have h7:VR (idR (ddl b4 b5 b7 c g D E ++ WW)) (ptr b7) (ptr b7):=fix_self (.ptr (by simp [ddl]))
 have hsl:VR (idR (ddl b4 b5 b7 c g D E ++ WW)) (.slice (some ⟨g,0,none⟩) n cap) (.slice (some ⟨g,0,none⟩) n cap):=fix_self (.slice (by simp [ddl]))
 have hc:VR (idR (ddl b4 b5 b7 c g D E ++ WW)) (.chan (some c)) (.chan (some c)):=fix_self (.chan (by simp [ddl]))
 have hn:VR (idR (ddl b4 b5 b7 c g D E ++ WW)) (.int .i64 n) (.int .i64 n):=.of_flat rfl
 have hi:VR (idR (ddl b4 b5 b7 c g D E ++ WW)) (.int .i64 i) (.int .i64 i):=.of_flat rfl
 have hj:VR (idR (ddl b4 b5 b7 c g D E ++ WW)) (.int .i64 j) (.int .i64 j):=.of_flat rfl
 simp only [List.mem_cons,List.not_mem_nil,or_false,forall_eq_or_imp,forall_eq] at hx
 obtain ⟨y10,y18,y19,y20,y21,y22,y26,y27,y28,y29,y30,y31⟩:=hx
 intro v hv
 simp only [tm2,List.mem_toArray,List.mem_cons,List.not_mem_nil,or_false] at hv
 rcases hv with rfl | rfl | rfl | rfl | rfl | rfl | rfl | rfl | rfl | rfl | rfl | rfl | rfl | rfl | rfl | rfl | rfl | rfl | rfl | rfl | rfl | rfl | rfl | rfl | rfl | rfl | rfl | rfl | rfl | rfl | rfl | rfl | rfl
 all_goals assumption
theorem phLone2 (X:PhX V wA p k ts vv rv s st b4 b5 b6 b7 c g cap D cur) (I:PhI wA b6 c D1 wr1 w) (hE:PhE wA D E D1 wr1 w) {acc acc':Int × Int} (O:PhO wA b6 bo acc wr1 w) (hG:Wg.gN≤wA.heap.size) (hh:HeapOk OC w)
  {tm tm':Array Value} {todo tgt:List Item} (hit:todo.all itemB=true) (hself:∀ v∈tm,VR (idR (ddl b4 b5 b7 c g D E ++ [b6,bo])) v v) (hself':∀ v∈tm',VR (idR (ddl b4 b5 b7 c g D E ++ [b6,bo])) v v) {b:Frame} (hbf:b.fn=97) (hbk:b.kind=.normal) {cs:List Frame} {vs:List Value} {Q:PostC}
  (hrun:∀ (VL:View) (w0:World),VL.In w0→VL b6=none→VL bo=none→w0.heap[b6]? = some (.cells #[.int .i64 0,.int .i64 0] 27 (0,0))→w0.heap[bo]? = some (.cells #[.int .i64 acc.1,.int .i64 acc.2] 27 (0,0))→VL.Cell b7 0 (.chan (some c)) →
   Rch Tryd.prog tgt (fun a w'=>a=⟨tm',[]⟩∧w'.heap[b6]? = some (.cells #[.int .i64 0,.int .i64 0] 27 (0,0))∧w'.heap[bo]? = some (.cells #[.int .i64 acc'.1,.int .i64 acc'.2] 27 (0,0))) todo ⟨tm,[]⟩ w0)
  (hk:∀ wr2 w2,PhI wA b6 c D1 wr2 w2→PhE wA D E D1 wr2 w2→PhO wA b6 bo acc' wr2 w2→ToC Tryd.prog c D1 wr2 vs (G (b.at ⟨tm',[]⟩ tgt) cs) w2 Q) :
  ToC Tryd.prog c D1 wr1 vs (G (b.at ⟨tm,[]⟩ todo) cs) w Q:=by
 have hW:=phW2 X I O hG
 have hseg:=phSeg X I hE hW hG
 have n6:b6 ∉ ddl b4 b5 b7 c g D E:=hseg.dis b6 (by simp)
 have no:bo ∉ ddl b4 b5 b7 c g D E:=hseg.dis bo (by simp)
 refine phLone (tgt:=tgt) X I hE hW hG hh hit hself hbf hbk (S:=fun a w'=>a=⟨tm',[]⟩∧w'.heap[b6]? = some (.cells #[.int .i64 0,.int .i64 0] 27 (0,0))∧w'.heap[bo]? = some (.cells #[.int .i64 acc'.1,.int .i64 acc'.2] 27 (0,0))) (fun _ _ _ _ h=>h) (fun τ d=>?_) ?_
 ·refine hrun (lv (ddl b4 b5 b7 c g D E) [] w) _ (lv_in _ [] w τ d) (by simp [lv,n6]) (by simp [lv,no]) ?_ ?_ (lv_cell (by simp [ddl]) (I.view X b7 _ X.v7) rfl)
  ·show (frzW (ddl b4 b5 b7 c g D E) w).heap[b6]? = _
   rw [lv_own (WW:=[]) n6]
   exact I.h6
  ·show (frzW (ddl b4 b5 b7 c g D E) w).heap[bo]? = _
   rw [lv_own (WW:=[]) no]
   exact O.obj
 ·rintro R' a' a2 wl w2 ⟨rfl,h6l,hol⟩ hle hAF hdf hWR hkept hfr
  have hfx:=keep_id hWR hle
  have htm:=tmps_eq hAF (all_self (fun v hv=>hself' v (by simpa using hv)) hfx)
  obtain ⟨tmps2,defers2⟩:=a2
  simp only [Array.toArray_toList] at hdf htm
  subst hdf
  subst htm
  refine hk _ _ (I.after X hkept hfr (own_after hWR hle (by simp) n6 (by simp [flat0]) h6l)) (hE.after X hkept hWR hle) ⟨.inl O.wr,O.ge,own_after hWR hle (by simp) no (by simp [flat0]) hol⟩
end
end Go.Proofs.YtjjmefieegcddaaDoor
namespace Go.Proofs.YtjjmefieegcddaaDoor
open Go.RowKit Go.Wg Go.Mm Go.Wk
open Go Go.Sr Go.Ph Go.Tm Go.Conc
def unspan:Value→Int × Int
 | .agg ⟨[.int _ a,.int _ b]⟩=>(a,b)
 | _=>(0,0)
theorem unspan_span (x:Int × Int):unspan (spanV x)=x:=rfl
theorem span_perm {l:List (Int × Int)} {v:Value} {rest:List Value} (h:(l.map spanV).Perm (v :: rest)):∃ x l',v=spanV x∧rest=l'.map spanV∧l.Perm (x :: l'):=by
 have hm:∀ u∈v :: rest,spanV (unspan u)=u:=fun u hu=>by
  obtain ⟨x,_,rfl⟩:=List.mem_map.1 (h.mem_iff.2 hu)
  rw [unspan_span]
 refine ⟨unspan v,rest.map unspan,(hm v (by simp)).symm,?_,?_⟩
 ·rw [List.map_map]
  conv=>lhs;rw [← List.map_id rest]
  exact List.map_congr_left fun u hu=>(hm u (by simp [hu])).symm
 ·have:=h.map unspan
  rw [List.map_map] at this
  have e:l.map (unspan ∘ spanV)=l:=by
   conv=>rhs;rw [← List.map_id l]
   exact List.map_congr_left fun u _=>unspan_span u
  rw [e] at this
  exact this
section
variable {V:View} {wA w w1 w2:World} {p:Nat} {k:Wk} {ts:List Nat} {vv rv:Value} {s:SS} {st:Bool} {b4 b5 b6 b7 c g cap bo:Nat} {D:List Nat} {cur:Array Value} {D1 wr1 x:Nat→Prop} {E WW:List Nat}
structure PhL (V:View) (wA:World) (k:Wk) (s:SS) (st:Bool) (b4 b5 b6 b7 c g:Nat) (D E:List Nat) (bo j:Nat) (D1 wr1:Nat→Prop) (l:List (Int × Int)) (acc:Int × Int) (w:World):Prop where
 I:PhI wA b6 c D1 wr1 w
 e:PhE wA D E D1 wr1 w
 o:PhO wA b6 bo acc wr1 w
 len:j+l.length=k.sources.length
 sum:bothS acc (sumS l)=totalS k s st
 bl:∀ x∈l,Pb 11764900 x
 ba:Pb (11764900 * j) acc
theorem PhL.rely (X:PhX V wA p k ts vv rv s st b4 b5 b6 b7 c g cap D cur) {j:Nat} {l:List (Int × Int)} {acc:Int × Int} (h:PhL V wA k s st b4 b5 b6 b7 c g D E bo j D1 wr1 l acc w) (hr:RelyW c (orS D1 wr1) w w1):PhL V wA k s st b4 b5 b6 b7 c g D E bo j D1 wr1 l acc w1 :=
 ⟨h.I.rely X hr,h.e.rely X hr,h.o.rely X hr,h.len,h.sum,h.bl,h.ba⟩
set_option maxRecDepth 20000 in
set_option maxHeartbeats 2000000 in
theorem loop2_recv (X:PhX V wA p k ts vv rv s st b4 b5 b6 b7 c g cap D cur) (hG:Wg.gN≤wA.heap.size) {b:Frame} (hbf:b.fn=97) (hbk:b.kind=.normal) {cs:List Frame} {Q:PostC} {j:Nat} {l:List (Int × Int)} {acc:Int × Int} (hL:PhL V wA k s st b4 b5 b6 b7 c g D E bo j D1 wr1 l acc w) (hj:j < k.sources.length)
  {x10 x18 x19 x20 x21 x22 x26 x27 x29 x30 x31:Value} (hx:∀ v∈[x10,x18,x19,x20,x21,x22,x26,x27,.chan (some c),x29,x30,x31],VR (idR (ddl b4 b5 b7 c g D E ++ [b6,bo])) v v) {r:List Nat} (hr5:(r=[3,4]∧x27=spanV acc)∨r=[0,3,4])
  (hk:∀ wr2 w2 x l',PhL V wA k s st b4 b5 b6 b7 c g D E bo (j+1) D1 wr2 l' (bothS acc x) w2→ToC Tryd.prog c D1 wr2 (l'.map spanV) (G (b.at ⟨tm2 p s st b4 b5 b6 b7 c bo (.slice (some ⟨g,0,none⟩) k.sources.length cap) k.sources.length k.sources.length (j+1) x10 x18 x19 x20 x21 x22 x26 (spanV acc) (.chan (some c)) (spanV x) (spanV (bothS acc x)) (.int .i64 ((j+1:Nat):Int)),[]⟩ head2) cs) w2 Q) :
  ToC Tryd.prog c D1 wr1 (l.map spanV) (G (b.at ⟨tm2 p s st b4 b5 b6 b7 c bo (.slice (some ⟨g,0,none⟩) k.sources.length cap) k.sources.length k.sources.length j x10 x18 x19 x20 x21 x22 x26 x27 (.chan (some c)) x29 x30 x31,[]⟩ (in11 (2 :: r))) cs) w Q:=by
 have hn6:=X.n6
 have hlen:=hL.len
 obtain ⟨z,hz⟩:=run_recv27 (o:=ops11[2]!) (a:=⟨tm2 p s st b4 b5 b6 b7 c bo (.slice (some ⟨g,0,none⟩) k.sources.length cap) k.sources.length k.sources.length j x10 x18 x19 x20 x21 x22 x26 x27 (.chan (some c)) x29 x30 x31,[]⟩) (x:=.tmp 28) (c:=c) rfl rfl
 refine toC_recv rfl (fun h=>?_) fun w1 hr1=>⟨_,z,_,stepG_comm (i:=2) (o:=ops11[2]!) rfl rfl (by simp [hbk]) (hz w1),?_,fun v rest hperm w2 hr2=>?_⟩
 ·have:l.length=0:=by simpa using congrArg List.length h
  omega
 ·intro e he
  unfold listed at he
  rw [events_recv27 (x:=.tmp 28) rfl,seen_none] at he
  simp at he
 ·obtain ⟨x,l',rfl,rfl,hpl⟩:=span_perm hperm
  have hL2:=(hL.rely X hr1).rely X hr2
  have hll:l.length=l'.length+1:=by simpa using hpl.length_eq
  have hbx:Pb 11764900 x:=hL.bl x (hpl.mem_iff.2 (by simp))
  show ToC Tryd.prog c D1 wr1 _ (G (b.at ⟨tm2 p s st b4 b5 b6 b7 c bo (.slice (some ⟨g,0,none⟩) k.sources.length cap) k.sources.length k.sources.length j x10 x18 x19 x20 x21 x22 x26 x27 (.chan (some c)) (spanV x) x30 x31,[]⟩ (in11 r)) cs) w2 Q
  refine toC_ok fun w3 hr3 hh3 _=>?_
  have hL3:=hL2.rely X hr3
  have hsp:∀ q:Int × Int,VR (idR (ddl b4 b5 b7 c g D E ++ [b6,bo])) (spanV q) (spanV q):=fun q=>fix_self (.agg fun v hv=>by
   have:v=.int .i64 q.1∨v=.int .i64 q.2:=by simpa using hv
   rcases this with rfl | rfl <;> rfl)
  have hx1:∀ v∈[x10,x18,x19,x20,x21,x22,x26,x27,.chan (some c),spanV x,x30,x31],VR (idR (ddl b4 b5 b7 c g D E ++ [b6,bo])) v v:=fun v hv=>by
   simp only [List.mem_cons,List.not_mem_nil,or_false] at hv
   rcases hv with rfl | rfl | rfl | rfl | rfl | rfl | rfl | rfl | rfl | rfl | rfl | rfl
   all_goals first | exact hsp _ | exact hx _ (by simp)
  have hx2:∀ v∈[x10,x18,x19,x20,x21,x22,x26,spanV acc,.chan (some c),spanV x,spanV (bothS acc x),.int .i64 ((j+1:Nat):Int)],VR (idR (ddl b4 b5 b7 c g D E ++ [b6,bo])) v v:=fun v hv=>by
   simp only [List.mem_cons,List.not_mem_nil,or_false] at hv
   rcases hv with rfl | rfl | rfl | rfl | rfl | rfl | rfl | rfl | rfl | rfl | rfl | rfl
   all_goals first | exact .of_flat rfl | exact hsp _ | exact hx _ (by simp)
  have hba:Pb 100000000000 acc:=hL3.ba.mono (by omega)
  refine phLone2 (acc':=bothS acc x) (tgt:=head2) X hL3.I hL3.e hL3.o hG hh3 (it_in11 r) (tm2_self (bo:=bo) X (by simp) (by simp) hx1) (tm2_self (n:=k.sources.length) (i:=k.sources.length) (bo:=bo) (j:=j+1) X (by simp) (by simp) hx2) hbf hbk (fun VL w0 hVL h6n hon h6 ho h7=>?_) fun wr2 w4 I4 E4 O4=>?_
  ·refine (seg6c p s st b4 b5 b6 b7 c bo k.sources.length k.sources.length j acc x _ x10 x18 x19 x20 x21 x22 x26 x27 _ x30 x31 hj hn6 hba (hbx.mono (by omega)) ho hon hVL r hr5).mono ?_
   rintro a w' ⟨rfl,hS⟩
   have hb6:b6≠bo:=by
    have:=X.v6lt
    have:=hL3.o.ge
    omega
   exact ⟨rfl,(hS.old b6 (lt_of_heap h6) (by simp [hb6])).trans h6,hS.has1⟩
  ·refine hk wr2 w4 x l' ⟨I4,E4,O4,by omega,?_,fun y hy=>hL.bl y (hpl.mem_iff.2 (by simp [hy])),?_⟩
   ·have h1:=hL.sum
    rw [sumS_perm hpl,sumS_cons] at h1
    rw [← h1]
    unfold bothS
    simp only [Prod.mk.injEq]
    omega
   ·have:=hL3.ba.both hbx
    refine this.mono ?_
    omega
set_option maxRecDepth 20000 in
set_option maxHeartbeats 2000000 in
theorem loop2 (X:PhX V wA p k ts vv rv s st b4 b5 b6 b7 c g cap D cur) (hG:Wg.gN≤wA.heap.size) {b:Frame} (hbf:b.fn=97) (hbk:b.kind=.normal) {cs:List Frame} {Q:PostC}
  (hend:∀ wr1 w x10 x18 x19 x20 x21 x22 x26 x27 x28 x29 x30 x31,PhL V wA k s st b4 b5 b6 b7 c g D E bo k.sources.length D1 wr1 [] (totalS k s st) w→(∀ v∈[x10,x18,x19,x20,x21,x22,x26,x27,x28,x29,x30,x31],VR (idR (ddl b4 b5 b7 c g D E ++ [b6,bo])) v v) →
   ToC Tryd.prog c D1 wr1 [] (G (b.at ⟨tm2 p s st b4 b5 b6 b7 c bo (.slice (some ⟨g,0,none⟩) k.sources.length cap) k.sources.length k.sources.length k.sources.length x10 x18 x19 x20 x21 x22 x26 x27 x28 x29 x30 x31,[]⟩ head2) cs) w Q) :
  ∀ (m j:Nat),j+m=k.sources.length→∀ wr1 w x10 x18 x19 x20 x21 x22 x26 x27 x28 x29 x30 x31 l acc,PhL V wA k s st b4 b5 b6 b7 c g D E bo j D1 wr1 l acc w→(∀ v∈[x10,x18,x19,x20,x21,x22,x26,x27,x28,x29,x30,x31],VR (idR (ddl b4 b5 b7 c g D E ++ [b6,bo])) v v) →
   ToC Tryd.prog c D1 wr1 (l.map spanV) (G (b.at ⟨tm2 p s st b4 b5 b6 b7 c bo (.slice (some ⟨g,0,none⟩) k.sources.length cap) k.sources.length k.sources.length j x10 x18 x19 x20 x21 x22 x26 x27 x28 x29 x30 x31,[]⟩ head2) cs) w Q:=by
 intro m
 induction m with
 | zero =>
  intro j hj wr1 w x10 x18 x19 x20 x21 x22 x26 x27 x28 x29 x30 x31 l acc hL hx
  obtain rfl:j=k.sources.length:=by omega
  have hl:l=[]:=List.length_eq_zero_iff.1 (by have:=hL.len;omega)
  subst hl
  have e:acc=totalS k s st:=by
   rw [← hL.sum]
   unfold bothS sumS
   simp
  subst e
  exact hend wr1 w x10 x18 x19 x20 x21 x22 x26 x27 x28 x29 x30 x31 hL hx
 | succ m ih =>
  intro j hj wr1 w x10 x18 x19 x20 x21 x22 x26 x27 x28 x29 x30 x31 l acc hL hx
  have hlt:j < k.sources.length:=by omega
  refine toC_ok fun w1 hr1 hh1 _=>?_
  replace hL:=hL.rely X hr1
  clear hr1 w
  simp only [List.mem_cons,List.not_mem_nil,or_false,forall_eq_or_imp,forall_eq] at hx
  obtain ⟨y10,y18,y19,y20,y21,y22,y26,y27,y28,y29,y30,y31⟩:=hx
  have yt:VR (idR (ddl b4 b5 b7 c g D E ++ [b6,bo])) (.bool true) (.bool true):=.of_flat rfl
  have yc:VR (idR (ddl b4 b5 b7 c g D E ++ [b6,bo])) (.chan (some c)) (.chan (some c)):=fix_self (.chan (by simp [ddl]))
  have ys:VR (idR (ddl b4 b5 b7 c g D E ++ [b6,bo])) (spanV acc) (spanV acc):=fix_self (.agg fun v hv=>by
   have:v=.int .i64 acc.1∨v=.int .i64 acc.2:=by simpa using hv
   rcases this with rfl | rfl <;> rfl)
  refine phLone2 (acc':=acc) (tgt:=at11) X hL.I hL.e hL.o hG hh1 it_head2 (tm2_self (bo:=bo) X (by simp) (by simp) (x26:=x26) (x27:=x27) (x28:=x28) (x29:=x29) (x30:=x30) (x31:=x31) (by simp only [List.mem_cons,List.not_mem_nil,or_false,forall_eq_or_imp,forall_eq];exact ⟨y10,y18,y19,y20,y21,y22,y26,y27,y28,y29,y30,y31⟩))
   (tm2_self (n:=k.sources.length) (i:=k.sources.length) (bo:=bo) (j:=j) X (by simp) (by simp) (x10:=x10) (x18:=x18) (x19:=x19) (x20:=x20) (x21:=x21) (x22:=x22) (x26:=.bool true) (x27:=x27) (x28:=x28) (x29:=x29) (x30:=x30) (x31:=x31) (by simp only [List.mem_cons,List.not_mem_nil,or_false,forall_eq_or_imp,forall_eq];exact ⟨y10,y18,y19,y20,y21,y22,yt,y27,y28,y29,y30,y31⟩)) hbf hbk (fun VL w0 hVL h6n hon h6 ho h7=>?_) fun wr2 w2 I2 E2 O2=>?_
  ·refine (seg4 p s st b4 b5 b6 b7 c bo k.sources.length k.sources.length j _ x10 x18 x19 x20 x21 x22 x26 x27 x28 x29 x30 x31 hlt X.n6 w0 hVL).mono ?_
   rintro a w' ⟨rfl,hS⟩
   exact ⟨rfl,(hS.toKp.old b6 (lt_of_heap h6)).trans h6,(hS.toKp.old bo (lt_of_heap ho)).trans ho⟩
  ·show ToC Tryd.prog c D1 wr2 (l.map spanV) (G (b.at ⟨tm2 p s st b4 b5 b6 b7 c bo (.slice (some ⟨g,0,none⟩) k.sources.length cap) k.sources.length k.sources.length j x10 x18 x19 x20 x21 x22 (.bool true) x27 x28 x29 x30 x31,[]⟩ (.code (.region 11 ops11 true) :: [.inBlock 3,.code R12,.inLoop L2,.inBlock 2,.code K13])) cs) w2 Q
   refine toC_draw fun l0 hl0=>?_
   rw [orders11] at hl0
   simp only [List.mem_cons,List.not_mem_nil,or_false] at hl0
   have hL2:PhL V wA k s st b4 b5 b6 b7 c g D E bo j D1 wr2 l acc w2:=⟨I2,E2,O2,hL.len,hL.sum,hL.bl,hL.ba⟩
   refine toC_ok fun w3 hr3 hh3 _=>?_
   have hL3:=hL2.rely X hr3
   have y5:VR (idR (ddl b4 b5 b7 c g D E ++ [b6,bo])) (x5 l0 acc x27) (x5 l0 acc x27):=by
    unfold x5
    split <;> assumption
   show ToC Tryd.prog c D1 wr2 (l.map spanV) (G (b.at ⟨tm2 p s st b4 b5 b6 b7 c bo (.slice (some ⟨g,0,none⟩) k.sources.length cap) k.sources.length k.sources.length j x10 x18 x19 x20 x21 x22 (.bool true) x27 x28 x29 x30 x31,[]⟩ (in11 l0)) cs) w3 Q
   refine phLone2 (acc':=acc) (tgt:=in11 (2 :: l5 l0)) X hL3.I hL3.e hL3.o hG hh3 (it_in11 l0) (tm2_self (bo:=bo) X (by simp) (by simp) (x26:=.bool true) (x27:=x27) (x28:=x28) (x29:=x29) (x30:=x30) (x31:=x31) (by simp only [List.mem_cons,List.not_mem_nil,or_false,forall_eq_or_imp,forall_eq];exact ⟨y10,y18,y19,y20,y21,y22,yt,y27,y28,y29,y30,y31⟩))
    (tm2_self (n:=k.sources.length) (i:=k.sources.length) (bo:=bo) (j:=j) X (by simp) (by simp) (x10:=x10) (x18:=x18) (x19:=x19) (x20:=x20) (x21:=x21) (x22:=x22) (x26:=.bool true) (x27:=x5 l0 acc x27) (x28:=.chan (some c)) (x29:=x29) (x30:=x30) (x31:=x31) (by simp only [List.mem_cons,List.not_mem_nil,or_false,forall_eq_or_imp,forall_eq];exact ⟨y10,y18,y19,y20,y21,y22,yt,y5,yc,y29,y30,y31⟩)) hbf hbk (fun VL w0 hVL h6n hon h6 ho h7=>?_) fun wr4 w4 I4 E4 O4=>?_
   ·refine (seg5 p s st b4 b5 b6 b7 c bo k.sources.length k.sources.length j acc _ x10 x18 x19 x20 x21 x22 _ x27 x28 x29 x30 x31 l0 hl0 h7 (range_at (cs:=[.int .i64 acc.1,.int .i64 acc.2]) (n:=2) ho rfl) hVL).mono ?_
    rintro a w' ⟨rfl,rfl⟩
    exact ⟨rfl,h6,ho⟩
   ·refine loop2_recv (r:=l5 l0) X hG hbf hbk ⟨I4,E4,O4,hL.len,hL.sum,hL.bl,hL.ba⟩ hlt (by simp only [List.mem_cons,List.not_mem_nil,or_false,forall_eq_or_imp,forall_eq];exact ⟨y10,y18,y19,y20,y21,y22,yt,y5,yc,y29,y30,y31⟩) ?_ fun wr5 w5 x l' h5=>?_
    ·rcases hl0 with rfl | rfl | rfl
     ·exact .inl ⟨rfl,rfl⟩
     ·exact .inl ⟨rfl,rfl⟩
     ·exact .inr rfl
    ·refine ih (j+1) (by omega) wr5 w5 _ _ _ _ _ _ _ _ _ _ _ _ l' _ h5 ?_
     have hsp:∀ q:Int × Int,VR (idR (ddl b4 b5 b7 c g D E ++ [b6,bo])) (spanV q) (spanV q):=fun q=>fix_self (.agg fun v hv=>by
      have:v=.int .i64 q.1∨v=.int .i64 q.2:=by simpa using hv
      rcases this with rfl | rfl <;> rfl)
     simp only [List.mem_cons,List.not_mem_nil,or_false,forall_eq_or_imp,forall_eq]
     exact ⟨y10,y18,y19,y20,y21,y22,yt,ys,yc,hsp _,hsp _,.of_flat rfl⟩
end
end Go.Proofs.YtjjmefieegcddaaDoor
