/- A part of the proof: W16. -/
import Derived.Test.YtjjmefieegcddaaDoorB08
import Derived.Test.YtjjmefieegcddaaDoorB07
set_option linter.unusedVariables false
set_option linter.unusedSimpArgs false
namespace Go.Proofs.YtjjmefieegcddaaDoor
open Go.RowKit Go.Wg Go.Mm
theorem build170 (w:World):(Instr.build 170 #[(2,Value.func (.func 126) #[] #[])]).run Tryd.prog w=.ok (.agg (grC Gr.empty).toArray) w:=by kernel_rfl
theorem run_build170 {ρ:Operand→Value} {o:Oper} (ho:o.op=.build 170 #[(2,.func 126)]) (hρ:ρ (.func 126)=Value.func (.func 126) #[] #[]) (w:World) :
  (execOp ρ o).run Tryd.prog w=.ok (.value (.agg (grC Gr.empty).toArray)) w:=by
 unfold execOp
 have:=build170 w
 simp only [ho,List.map_toArray,List.map_cons,List.map_nil,hρ]
 rw [Sem.run_bind,this]
 rfl
theorem qb170 {ops:Array Oper} {rest:List Oper} {a:Act} {Q:Exit→Act→World→Prop} {w:World} {d:Option Tmp} {t:TypeId} {p:String} {af:Array Edge} {g:Option (Nat × Bool)}
  (hgd:Region.wanted ⟨d,.build 170 #[(2,.func 126)],t,p,af,g⟩ (yielded ops a.tmps)=true)
  (h:∀ a',a.put d (.agg (grC Gr.empty).toArray)=a'→wpList Tryd.prog ops Q rest a' w):wpList Tryd.prog ops Q (⟨d,.build 170 #[(2,.func 126)],t,p,af,g⟩ :: rest) a w :=
 wpl_value hgd (run_build170 rfl rfl w) (h _ rfl)
set_option maxRecDepth 20000 in
set_option maxHeartbeats 2000000 in
theorem spread_leaf (V:View) (p:Nat) (k:Wk) (ts:List Nat) (vv rv:Value) (hC:Cel V p k ts vv rv) (s:SS) (hs:s.WF) (st:Bool) (i:Nat) (hi:i < k.n) (hf:k.fills i=[]) (w:World) (hV:V.In w) :
  Calls Tryd.prog 124 #[ptr (ts.getD i 0),.agg (stC s).toArray,.bool st] w fun r w'=>∃ g,r=.returned (.pointer (some ⟨g,0,none⟩))∧Kp w w'∧w.heap.size≤g∧w'.heap[g]? = some (.cells (grC (leafTo s st i 41)).toArray 170 (0,0)):=by
 have hi6:i < 6:=Nat.lt_of_lt_of_le hi hC.le
 have hi1:(0:Int)≤i:=by omega
 have hi2:(i:Int) < 6:=by omega
 have HL:(stC s).length=18:=stC_len hs
 have hlx:=stC_lim hs hi6
 have hls:=hs.limAt_lt i
 obtain ⟨fv,hf5,fs⟩:=hC.fil i hi
 obtain ⟨fa,fcap,rfl,hfc,hfm,hfe⟩:=fs.is
 rw [hf] at hf5 hfc
 simp only [List.length_nil] at hf5 hfc
 have hnum:=hC.tun i hi 4 _ rfl
 simp only [Nat.zero_add] at hnum
 have hS:=St.start w V hV
 unfold ptr
 generalize ts.getD i 0=ti at hf5 hnum
 clear hC fs hfe hf hi
 go_enter Tryd.func124,Tryd.ntmps124
 go_wp2_with (first | (first | (((with_reducible refine gL ?_);refine qv1 hS rfl rfl rfl ?_);refine ⟨_,zd,?_⟩;clear hS;(try clear w');intro a' hp;(try simp only [fr] at hp);subst hp;intro w' hS;(try simp only [sE] at hS)) | ((with_reducible refine gB ?_);refine qboxd 4 rfl hS rfl rfl rfl ?_;refine ⟨_,za,?_⟩;clear hS;(try clear w');intro b4;intro a' hp;(try simp only [fr] at hp);subst hp;intro w' hS) | ((with_reducible refine gB ?_);refine qboxd 21 rfl hS rfl rfl rfl ?_;refine ⟨_,za,?_⟩;clear hS;(try clear w');intro b21;intro a' hp;(try simp only [fr] at hp);subst hp;intro w' hS)) | (refine qb170 rfl ?_;intro a' hp;(try simp only [fr] at hp);subst hp))
 go_loopw [30] (fun n wr=>∃ m:Nat,m≤41∧n=.int .i64 (m:Int)∧St w [] V [.blk b21 170 (grC (leafTo s st i m)),.blk b4 100 (stC s)] wr) (fun n _=>41 - (intOf n).toNat)
 case atStart=>exact ⟨0,by omega,rfl,hS⟩
 case round =>
  clear hS
  obtain ⟨m,hm,rfl,hS⟩:=hrel
  by_cases hlt:m < 41
  ·have h0:(0:Int)≤m:=by omega
   have h1:(m:Int) < 41:=by omega
   have hwf:=leafTo_wf s st i m hm
   have HN:leafTo s st i (m+1)=if (s.limAt i).testBit m then (leafTo s st i m).add m (if st then ((m:Int),(m:Int)) else (0,0)) else leafTo s st i m:=rfl
   replace HN:=mkHid HN
   generalize leafTo s st i m=gr at hS hwf HN
   cases hb:(s.limAt i).testBit m
   ·rw [hb] at HN
    go_wp2_with (first | (((with_reducible refine gL ?_);first | refine ql1 hS rfl rfl rfl ?_ | refine qv1 hS rfl rfl rfl ?_);refine ⟨_,zd,?_⟩;clear hS;(try clear w');intro a' hp;(try simp only [fr] at hp);subst hp;intro w' hS;(try simp only [sE] at hS)) | (go_at_call 125;refine (has_ok (s.limAt i) m (by omega) (by omega) _).mono ?_;rw [hb];rintro _ w' ⟨rfl,rfl⟩))
    go_roundw
    case rel=>exact ⟨m+1,by omega,by go_num,by rw [HN.out];exact hS⟩
    case measure=>simp only [intOf];omega
   ·rw [hb] at HN
    have hadd:=fun (x:Int × Int) w' hg=>add_ok gr hwf b21 m hlt x w' hg
    unfold spanV at hadd
    cases st
    ·have hcon:=hadd (0,0)
     clear hadd
     go_wp2_with (first | (((with_reducible refine gL ?_);first | refine ql1 hS rfl rfl rfl ?_ | refine qv1 hS rfl rfl rfl ?_);refine ⟨_,zd,?_⟩;clear hS;(try clear w');intro a' hp;(try simp only [fr] at hp);subst hp;intro w' hS;(try simp only [sE] at hS)) | (go_at_call 125;refine (has_ok (s.limAt i) m (by omega) (by omega) _).mono ?_;rw [hb];rintro _ w' ⟨rfl,rfl⟩) |
      (go_at_call 133;refine calls_mut hS ⟨_,_,hcon _,?_⟩;clear hS;(try clear w');intro w' hS;simp only [sE] at hS))
     go_roundw
     case rel=>exact ⟨m+1,by omega,by go_num,by rw [HN.out];exact hS⟩
     case measure=>simp only [intOf];omega
    ·have hcon:=hadd ((m:Int),(m:Int))
     clear hadd
     go_wp2_with (first | (((with_reducible refine gL ?_);first | refine ql1 hS rfl rfl rfl ?_ | refine qv1 hS rfl rfl rfl ?_);refine ⟨_,zd,?_⟩;clear hS;(try clear w');intro a' hp;(try simp only [fr] at hp);subst hp;intro w' hS;(try simp only [sE] at hS)) | (go_at_call 125;refine (has_ok (s.limAt i) m (by omega) (by omega) _).mono ?_;rw [hb];rintro _ w' ⟨rfl,rfl⟩) |
      (go_at_call 133;refine calls_mut hS ⟨_,_,hcon _,?_⟩;clear hS;(try clear w');intro w' hS;simp only [sE] at hS))
     go_roundw
     case rel=>exact ⟨m+1,by omega,by go_num,by rw [HN.out];exact hS⟩
     case measure=>simp only [intOf];omega
  ·obtain rfl:m=41:=by omega
   go_wp2_with (fail)
   ((try simp only [Exit.inBlock,Exit.then]);(try refine bodyPost_norm ?_);refine ret_by ⟨_,by exact results1 (r1:=.tmp 6) (by kernel_rfl) (by exact rs_tmp rfl),?_⟩ rfl)
   exact ⟨b21,rfl,hS.toKp,hS.newAt,hS.has1⟩
end Go.Proofs.YtjjmefieegcddaaDoor
