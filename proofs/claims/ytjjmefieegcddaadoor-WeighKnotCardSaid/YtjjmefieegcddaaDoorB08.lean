/- A part of the proof: W3, W4, W5, W6, W8, W9, W10, W11, W13, W14, W15. -/
import Derived.Test.YtjjmefieegcddaaDoorB06
import Derived.Test.YtjjmefieegcddaaDoorB07
set_option linter.unusedVariables false
set_option linter.unusedSimpArgs false
namespace Go.Proofs.YtjjmefieegcddaaDoor
open Go.RowKit Go.Wg Go.Mm
set_option maxHeartbeats 400000 in
theorem span_no (lo hi:Int) (h:hi < 0∨hi < lo) (w:World) :
  Calls Tryd.prog 100 #[.int .i64 lo,.int .i64 hi] w fun r w'=>r=.returned (.int .u64 0)∧w'=w:=by
 by_cases h0:hi < 0
 ·go_enter Tryd.func100,Tryd.ntmps100
  go_wp2
  go_ret
  exact ⟨rfl,rfl⟩
 ·have h1:0≤hi:=by omega
  have h2:hi < lo:=by omega
  clear h h0
  go_enter Tryd.func100,Tryd.ntmps100
  go_wp2
  go_ret
  exact ⟨rfl,rfl⟩
set_option maxHeartbeats 400000 in
theorem span_over (lo hi:Int) (h0:0≤hi) (h:lo≤hi) (h1:40 < lo) (w:World) :
  Calls Tryd.prog 100 #[.int .i64 lo,.int .i64 hi] w fun r w'=>r=.returned (.int .u64 0)∧w'=w:=by
 have h2:0≤lo:=by omega
 go_enter Tryd.func100,Tryd.ntmps100
 go_wp2
 go_ret
 exact ⟨rfl,rfl⟩
set_option maxHeartbeats 400000 in
theorem span_in1 (lo hi:Nat) (h:lo≤hi) (h1:hi≤40) (w:World) :
  Calls Tryd.prog 100 #[.int .i64 lo,.int .i64 hi] w fun r w'=>r=.returned (.int .u64 (spanN lo hi:Nat))∧∃ n,w'=w.drewN n:=by
 have h2:(0:Int)≤hi:=by omega
 have h3:(lo:Int)≤hi:=by omega
 have h4:(lo:Int)≤40:=by omega
 have h5:(hi:Int)≤40:=by omega
 go_enter Tryd.func100,Tryd.ntmps100
 go_wp2
 go_quiet (fail)
 go_wp2
 go_ret
 refine ⟨?_,_,rfl⟩
 have:=span_bits lo hi h h1
 simpa using this
set_option maxHeartbeats 400000 in
theorem span_in2 (lo:Nat) (hi:Int) (h:(lo:Int)≤40) (h1:40 < hi) (w:World) :
  Calls Tryd.prog 100 #[.int .i64 lo,.int .i64 hi] w fun r w'=>r=.returned (.int .u64 (spanN lo 40:Nat))∧∃ n,w'=w.drewN n:=by
 have h2:(0:Int)≤hi:=by omega
 have h3:(lo:Int)≤hi:=by omega
 go_enter Tryd.func100,Tryd.ntmps100
 go_wp2
 go_quiet (fail)
 go_wp2
 go_ret
 refine ⟨?_,_,rfl⟩
 have:=span_bits lo 40 (by omega) (by omega)
 simpa using this
set_option maxHeartbeats 400000 in
theorem span_in3 (lo:Int) (hi:Nat) (h:lo < 0) (h1:hi≤40) (w:World) :
  Calls Tryd.prog 100 #[.int .i64 lo,.int .i64 hi] w fun r w'=>r=.returned (.int .u64 (spanN 0 hi:Nat))∧∃ n,w'=w.drewN n:=by
 have h2:(0:Int)≤hi:=by omega
 have h3:lo≤hi:=by omega
 have h5:(hi:Int)≤40:=by omega
 go_enter Tryd.func100,Tryd.ntmps100
 go_wp2
 go_quiet (fail)
 go_wp2
 go_ret
 refine ⟨?_,_,rfl⟩
 have:=span_bits 0 hi (by omega) h1
 simpa [wrap_u64] using this
set_option maxHeartbeats 400000 in
theorem span_in4 (lo hi:Int) (h:lo < 0) (h1:40 < hi) (w:World) :
  Calls Tryd.prog 100 #[.int .i64 lo,.int .i64 hi] w fun r w'=>r=.returned (.int .u64 (spanN 0 40:Nat))∧∃ n,w'=w.drewN n:=by
 have h2:(0:Int)≤hi:=by omega
 have h3:lo≤hi:=by omega
 go_enter Tryd.func100,Tryd.ntmps100
 go_wp2
 go_quiet (fail)
 go_wp2
 go_ret
 refine ⟨?_,_,rfl⟩
 have:=span_bits 0 40 (by omega) (by omega)
 simpa [wrap_u64] using this
theorem span_ok (lo hi:Int) (w:World) :
  Calls Tryd.prog 100 #[.int .i64 lo,.int .i64 hi] w fun r w'=>r=.returned (.int .u64 (spanB lo hi:Nat))∧Kp w w':=by
 unfold spanB
 by_cases h:hi < 0∨hi < lo
 ·rw [if_pos h]
  exact (span_no lo hi h w).mono fun _ _ ⟨h1,h2⟩=>⟨h1,h2 ▸ Kp.refl w⟩
 ·rw [if_neg h]
  by_cases h2:40 < lo
  ·rw [if_pos h2]
   exact (span_over lo hi (by omega) (by omega) h2 w).mono fun _ _ ⟨h1,h2⟩=>⟨h1,h2 ▸ Kp.refl w⟩
  ·rw [if_neg h2]
   have key:Calls Tryd.prog 100 #[.int .i64 lo,.int .i64 hi] w fun r w'=>r=.returned (.int .u64 (spanN lo.toNat (min hi 40).toNat:Nat))∧∃ n,w'=w.drewN n:=by
    by_cases h3:lo < 0
    ·by_cases h4:40 < hi
     ·have:=span_in4 lo hi h3 h4 w
      rwa [show lo.toNat=0 by omega,show (min hi 40).toNat=40 by omega]
     ·have:=span_in3 lo hi.toNat h3 (by omega) w
      rw [show ((hi.toNat:Nat):Int)=hi by omega] at this
      rwa [show lo.toNat=0 by omega,show (min hi 40).toNat=hi.toNat by omega]
    ·by_cases h4:40 < hi
     ·have:=span_in2 lo.toNat hi (by omega) h4 w
      rw [show ((lo.toNat:Nat):Int)=lo by omega] at this
      rwa [show (min hi 40).toNat=40 by omega]
     ·have:=span_in1 lo.toNat hi.toNat (by omega) (by omega) w
      rw [show ((lo.toNat:Nat):Int)=lo by omega,show ((hi.toNat:Nat):Int)=hi by omega] at this
      rwa [show (min hi 40).toNat=hi.toNat by omega]
   exact key.mono fun _ _ ⟨h1,n,h2⟩=>⟨h1,h2 ▸ Kp.drew w n⟩
set_option maxHeartbeats 400000 in
theorem has_ok (m n:Nat) (hm:m < 18446744073709551616) (hn:n < 64) (w:World) :
  Calls Tryd.prog 125 #[.int .u64 m,.int .i64 n] w fun r w'=>r=.returned (.bool (m.testBit n))∧w'=w:=by
 have h1:(0:Int)≤n:=by omega
 have h2:(n:Int) < 64:=by omega
 have:=has_bits m n hm
 have HS:Hid ((bits .and .u64 ((m:Int) / 2 ^ n) 1 == 1)=m.testBit n):=this
 clear this
 go_enter Tryd.func125,Tryd.ntmps125
 go_wp2
 go_ret
 refine ⟨?_,rfl⟩
 have:=HS.out
 simp [← this]
end Go.Proofs.YtjjmefieegcddaaDoor
namespace Go.Proofs.YtjjmefieegcddaaDoor
open Go.RowKit Go.Wg Go.Mm
theorem plus_end (m v:Nat):bits .and .u64 (plusTo m v 41:Int) 2199023255551=((plusB m v:Nat):Int):=by
 exact bits_and (plusTo m v 41) 2199023255551 (plusTo_lt m v 41) (by decide)
theorem plus_hit (m v k:Nat) (h:m.testBit k=true):bits .or .u64 (plusTo m v k:Int) (IntKind.u64.wrap ((v:Int) * 2 ^ k))=((plusTo m v (k+1):Nat):Int):=by
 rw [wrap_shl,bits_or _ _ (plusTo_lt m v k) (Nat.mod_lt _ (by decide)),plusTo_succ,plusStep,h]
 rfl
theorem plus_miss (m v k:Nat) (h:m.testBit k=false):plusTo m v (k+1)=plusTo m v k:=by
 rw [plusTo_succ,plusStep,h]
 rfl
set_option maxHeartbeats 400000 in
theorem plus_ok (m v:Nat) (hm:m < 18446744073709551616) (w:World) :
  Calls Tryd.prog 120 #[.int .u64 m,.int .u64 v] w fun r w'=>r=.returned (.int .u64 (plusB m v:Nat))∧Kp w w':=by
 have HE:Hid (bits .and .u64 (plusTo m v 41:Int) 2199023255551=((plusB m v:Nat):Int)):=plus_end m v
 go_enter Tryd.func120,Tryd.ntmps120
 go_wp2
 go_loop [5,7] (fun out n=>∃ k:Nat,k≤41∧n=.int .i64 k∧out=.int .u64 (plusTo m v k)) (fun _ n=>41 - (intOf n).toNat)
 case atStart=>exact ⟨0,by omega,rfl,rfl⟩
 case round =>
  obtain ⟨k,hk,rfl,rfl⟩:=hrel
  by_cases hlt:k < 41
  ·have h1:(k:Int) < 41:=by omega
   have h2:(0:Int)≤k:=by omega
   have h3:(k:Int) < 64:=by omega
   have HH:Hid (m.testBit k=true→bits .or .u64 (plusTo m v k:Int) (IntKind.u64.wrap ((v:Int) * 2 ^ k))=((plusTo m v (k+1):Nat):Int)):=plus_hit m v k
   have HM:Hid (m.testBit k=false→plusTo m v (k+1)=plusTo m v k):=plus_miss m v k
   go_wp2_with (refine (has_ok m k hm (by omega) _).mono ?_;rintro _ w' ⟨rfl,rfl⟩)
   all_goals go_round
   case rel=>exact ⟨k+1,by omega,by go_num,by rw [HH.out (by assumption)]⟩
   case measure=>simp [intOf];omega
   case rel=>exact ⟨k+1,by omega,by go_num,by rw [HM.out (by assumption)]⟩
   case measure=>simp [intOf];omega
  ·obtain rfl:k=41:=by omega
   go_wp2
   go_ret
   refine ⟨?_,Kp.refl _⟩
   rw [← HE.out]
   rfl
set_option maxHeartbeats 400000 in
theorem weighed_ok (s:SS) (hs:s.WF) (i:Nat) (hi:i < 6) (n:Int) (w:World) :
  Calls Tryd.prog 84 #[.agg (stC s).toArray,.int .i64 i,.int .i64 n] w fun r w'=>r=.returned (.agg (stC (s.weighed i n)).toArray)∧Kp w w':=by
 have hi1:(0:Int)≤i:=by omega
 have hi2:(i:Int) < 6:=by omega
 have hx:=stC_lim hs hi
 have HB:Hid (bits .and .u64 (s.limAt i:Int) (spanB n n:Int)=((s.limAt i &&& spanB n n:Nat):Int)):=bits_and _ _ (by have:=hs.limAt_lt i;omega) (by have:=spanB_lt n n;omega)
 have HL:(stC s).length=18:=stC_len hs
 have HL':∀ m,(stC (s.setLim i m)).length=18:=fun m=>by rw [← stC_setlim hs hi];simpa using HL
 have hS:=St.start w (fun _=>none) (fun k o h=>by cases h)
 go_enter Tryd.func84,Tryd.ntmps84
 go_wp2_with ((first | ((with_reducible refine gA ?_);refine qalloc hS rfl rfl ?_) | ((with_reducible refine gB ?_);refine qbox hS rfl rfl rfl ?_;refine ⟨_,za,?_⟩));clear hS;(try clear w');intro _;intro a' hp;(try simp only [fr] at hp);subst hp;intro w' hS)
 (refine wp_region_quiet_tail 10 (by kernel_rfl) (by kernel_rfl) (St.drew1 hS) ?_;simp only [List.take_succ_cons,List.take_zero,List.drop_succ_cons,List.drop_zero];clear hS;(repeat ((go_big_quiet_want;(first | ((with_reducible refine gqM ?_);refine quiet_mv rfl rfl ?_;intro a' hp;(try simp only [fr] at hp);subst hp) | ((with_reducible refine gqL ?_);(refine quiet_l1 rfl rfl ?_);refine ⟨_,zd,?_⟩;intro a' hp;(try simp only [fr] at hp);subst hp) | ((with_reducible refine gqV ?_);refine quiet_con ?_;refine ⟨_,_,by (intro _;go_simp;exact ⟨rfl,rfl⟩),?_⟩;refine ⟨_,by (intro w' hS;((go_at_call 100;exact span_ok _ _ _))),?_⟩;intro a' hp;(try simp only [fr] at hp);subst hp) | (refine quiet_pure ?_;refine ⟨_,zp,?_⟩;intro a' hp;(try simp only [fr] at hp);subst hp));go_big_quiet_on)));refine wpQuiet_nil ?_;(try clear w');intro w' hS)
 go_wp2_with (((first | ((with_reducible refine gL ?_);refine qln hS rfl rfl rfl ?_) | ((with_reducible refine gS ?_);first | refine qs1 hS rfl rfl rfl ?_ | refine qsall hS rfl rfl rfl ?_));refine ⟨_,zd,?_⟩;clear hS;(try clear w');intro a' hp;(try simp only [fr] at hp);subst hp;intro w' hS;(try simp only [sE] at hS));try (simp only [HB.out,stC_setlim hs hi] at hS))
 ((try simp only [Exit.inBlock,Exit.then]);(try refine bodyPost_norm ?_);refine ret_by ⟨_,by exact results1 (r1:=.cell 6 100) (by kernel_rfl) (by exact rs_n hS rfl zd),?_⟩ rfl)
 exact ⟨rfl,hS.toKp⟩
end Go.Proofs.YtjjmefieegcddaaDoor
namespace Go.Proofs.YtjjmefieegcddaaDoor
open Go.RowKit Go.Wg Go.Mm
set_option maxHeartbeats 1000000 in
theorem up_ok (V:View) (p:Nat) (k:Wk) (hC:Cellar V p k) (s:SS) (hs:s.WF) (w:World) (hV:V.In w) :
  Calls Tryd.prog 92 #[ptr p,.agg (stC s).toArray] w fun r w'=>r=.returned (.agg (limC (up k s)).toArray)∧Kp w w':=by
 obtain ⟨ts,vv,rv,hC⟩:=hC
 obtain ⟨g,cap,hc2,hts⟩:=hC.c2
 have hn0:=hC.pos
 have hn6:=hC.le
 have HL:(stC s).length=18:=stC_len hs
 have hS:=St.start w V hV
 unfold ptr
 go_enter Tryd.func92,Tryd.ntmps92
 go_wp2_with (first | (((with_reducible refine gL ?_);refine qv1 hS rfl rfl rfl ?_);refine ⟨_,zd,?_⟩;clear hS;(try clear w');intro a' hp;(try simp only [fr] at hp);subst hp;intro w' hS;(try simp only [sE] at hS)) | ((with_reducible refine gB ?_);refine qboxd 3 rfl hS rfl rfl rfl ?_;refine ⟨_,za,?_⟩;clear hS;(try clear w');intro b3;intro a' hp;(try simp only [fr] at hp);subst hp;intro w' hS) | ((with_reducible refine gA ?_);refine qallocd 4 rfl hS rfl rfl ?_;clear hS;(try clear w');intro b4;intro a' hp;(try simp only [fr] at hp);subst hp;intro w' hS) | ((with_reducible refine gA ?_);refine qallocd 5 rfl hS rfl rfl ?_;clear hS;(try clear w');intro b5;intro a' hp;(try simp only [fr] at hp);subst hp;intro w' hS))
 go_loopw [6] (fun i wr=>∃ m:Nat,m≤k.n∧i=.int .i64 ((k.n:Int) - 1 - m)∧St w [] V [.blk b5 96 (limC (upAt k s m)),.blk b4 96 (List.replicate 6 (.int .u64 0)),.blk b3 100 (stC s)] wr) (fun i _=>((intOf i)+1).toNat)
 case atStart=>exact ⟨0,by omega,by simp,hS⟩
 case round =>
  clear hS
  obtain ⟨m,hm,rfl,hS⟩:=hrel
  by_cases hlt:m < k.n
  ·obtain ⟨i,hi⟩:∃ i,i+m+1=k.n:=⟨k.n - 1 - m,by omega⟩
   have hii:k.n - 1 - m=i:=by omega
   have e1:(k.n:Int) - 1 - m=(i:Int):=by omega
   rw [e1]
   have h0:(0:Int)≤i:=by omega
   have h1:(i:Int) < 6:=by omega
   have h2:(i:Int) < k.n:=by omega
   have h6:i < 6:=by omega
   have hl:=stC_lim hs h6
   have hlo:=stC_lo hs h6
   have hhi:=stC_hi hs h6
   have hti:=hts i (by omega)
   obtain ⟨fv,hf5,hfs⟩:=hC.fil i (by omega)
   obtain ⟨fa,fcap,rfl,hfc,hfm,hfe⟩:=hfs.is
   have HO:(limC (upAt k s m)).length=6:=by rw [limC_len,upAt_len]
   unfold ptr at hti
   generalize ts.getD i 0=ti at hti hf5
   have HE:upAt k s (m+1)=(upAt k s m).set i (upOne k s (upAt k s m) i):=by rw [upAt,hii]
   replace HE:=mkHid HE
   have HM:(i:Int) - 1=(k.n:Int) - 1 - ((m+1:Nat):Int):=by omega
   replace HM:=mkHid HM
   by_cases hf:k.fills i=[]
   ·have HU:upOne k s (upAt k s m) i=s.limAt i:=by rw [upOne,if_pos hf]
    replace HU:=mkHid HU
    rw [hf] at hf5
    simp only [List.length_nil] at hf5
    clear hfs hfe hfc
    go_wp2_with ((first | ((with_reducible refine gL ?_);first | refine ql1 hS rfl rfl rfl ?_ | refine qv1 hS rfl rfl rfl ?_) | ((with_reducible refine gS ?_);refine qs1 hS rfl rfl rfl ?_));refine ⟨_,zd,?_⟩;clear hS;(try clear w');intro a' hp;(try simp only [fr] at hp);subst hp;intro w' hS;(try simp only [sE] at hS))
    go_roundw
    case rel =>
     refine ⟨m+1,by omega,by rw [HM.out],?_⟩
     rw [HE.out,HU.out,← limC_set];exact hS
    case measure =>
     show ((i:Int) - 1+1).toNat < ((i:Int)+1).toNat
     omega
   ·have hfl:0 < (k.fills i).length:=List.length_pos_iff.2 hf
    obtain ⟨fg,fo,rfl,hfr⟩:=hfe hfl
    have hfl':(((k.fills i).length:Int) == 0)=false:=by rw [beq_eq_false_iff_ne];omega
    have hfl2:(k.fills i).length≤6:=by
     have:=List.length_filter_le (fun j=>(k.v j).from_ == (i:Int)) (List.range k.n)
     rw [List.length_range] at this
     exact Nat.le_trans this hn6
    obtain ⟨out,hout⟩:∃ out,(upAt k s m).set i (s.limAt i)=out:=⟨_,rfl⟩
    have hlen:out.length=6:=by rw [← hout];simp [upAt_len]
    have HU:upOne k s (upAt k s m) i=s.limAt i &&& plusB (sums out (k.fills i)) (spanB (s.losAt i).1 (s.losAt i).2):=by rw [upOne,if_neg hf,hout]
    replace HU:=mkHid HU
    have HW:=limC_set (upAt k s m) i (s.limAt i)
    rw [hout] at HW
    replace HW:=mkHid HW
    have HOi:out.getD i 0=s.limAt i:=by rw [← hout,List.getD_eq_getElem?_getD];simp [upAt_len,h6]
    have HF:out.set i (upOne k s (upAt k s m) i)=upAt k s (m+1):=by rw [HE.out,← hout,List.set_set]
    replace HF:=mkHid HF
    have hoi:=limC_get (l:=out) (i:=i) (by omega)
    rw [HOi] at hoi
    replace HOi:=mkHid HOi
    replace hout:=mkHid hout
    have HO':(limC out).length=6:=by rw [limC_len,hlen]
    go_wp2_with (((first | ((with_reducible refine gL ?_);first | refine ql1 hS rfl rfl rfl ?_ | refine qv1 hS rfl rfl rfl ?_) | ((with_reducible refine gS ?_);refine qs1 hS rfl rfl rfl ?_));refine ⟨_,zd,?_⟩;clear hS;(try clear w');intro a' hp;(try simp only [fr] at hp);subst hp;intro w' hS;(try simp only [sE] at hS));try (simp only [HW.out] at hS))
    go_loopw [8,45] (fun sm j wr=>∃ q:Nat,q≤(k.fills i).length∧j=.int .i64 q∧sm=.int .u64 (sums out ((k.fills i).take q):Nat)∧St w [] V [.blk b5 96 (limC out),.blk b4 96 (List.replicate 6 (.int .u64 0)),.blk b3 100 (stC s)] wr) (fun _ j _=>(k.fills i).length - (intOf j).toNat)
    case atStart=>exact ⟨0,by omega,rfl,rfl,hS⟩
    case round =>
     clear hS
     obtain ⟨q,hq,rfl,rfl,hS⟩:=hrel
     by_cases hql:q < (k.fills i).length
     ·have hq1:(q:Int) < (k.fills i).length:=by omega
      have hq0:(0:Int)≤q:=by omega
      obtain ⟨x,hx⟩:∃ x,(k.fills i).getD q 0=x:=⟨_,rfl⟩
      have hx6:x < k.n:=by
       have:x∈k.fills i:=by rw [← hx,List.getD_eq_getElem?_getD,List.getElem?_eq_getElem hql];exact List.getElem_mem _
       exact List.mem_range.1 (List.mem_filter.1 this).1
      have hpx:=hfr q hql 0 _ rfl
      have htx:=hC.tun x hx6 4 _ rfl
      simp only [hx,Nat.mul_one,Nat.add_zero,Nat.zero_add,ptr] at hpx htx
      generalize ts.getD x 0=tx at hpx htx
      have hxo:=limC_get (l:=out) (i:=x) (by omega)
      have hx1:(x:Int) < 6:=by omega
      have hx0:(0:Int)≤x:=by omega
      have HT:=sums_take out (k.fills i) q hql
      rw [hx] at HT
      have hox:out.getD x 0 < 2199023255552:=by rw [← hout.out];exact setAt_lt (upAt_lt hs m) (hs.limAt_lt i) i x
      generalize out.getD x 0=ox at hxo HT hox
      replace HT:=mkHid HT
      have hsm:=sums_lt out ((k.fills i).take q)
      clear hfr hti hf5 hfs hx
      go_wp2_with (first | (((with_reducible refine gL ?_);first | refine ql1 hS rfl rfl rfl ?_ | refine qv1 hS rfl rfl rfl ?_);refine ⟨_,zd,?_⟩;clear hS;(try clear w');intro a' hp;(try simp only [fr] at hp);subst hp;intro w' hS;(try simp only [sE] at hS)) | ((with_reducible refine gC ?_);refine calls_by hS ⟨_,by (go_at_call 120;exact plus_ok _ _ zc _),?_⟩;clear hS;(try clear w');intro w' hS))
      go_roundw
      case rel=>exact ⟨q+1,by omega,by go_num,by rw [HT.out],hS⟩
      case measure=>simp [intOf];omega
     ·obtain rfl:q=(k.fills i).length:=by omega
      simp only [List.take_length] at *
      have hsm:=sums_lt out (k.fills i)
      go_wp2_with (fail)
      (refine wp_region_quiet_tail 18 (by kernel_rfl) (by kernel_rfl) (St.drew1 hS) ?_;simp only [List.take_succ_cons,List.take_zero,List.drop_succ_cons,List.drop_zero];clear hS;(repeat ((go_big_quiet_want;(first | ((with_reducible refine gqM ?_);refine quiet_mv rfl rfl ?_;intro a' hp;(try simp only [fr] at hp);subst hp) | ((with_reducible refine gqL ?_);(refine quiet_l1 rfl rfl ?_);refine ⟨_,zd,?_⟩;intro a' hp;(try simp only [fr] at hp);subst hp) | ((with_reducible refine gqV ?_);refine quiet_con ?_;refine ⟨_,_,by (intro _;go_simp;exact ⟨rfl,rfl⟩),?_⟩;refine ⟨_,by (intro w' hS;(first | (go_at_call 100;exact span_ok _ _ _) | (go_at_call 120;exact plus_ok _ _ zc _))),?_⟩;intro a' hp;(try simp only [fr] at hp);subst hp) | (refine quiet_pure ?_;refine ⟨_,zp,?_⟩;intro a' hp;(try simp only [fr] at hp);subst hp));go_big_quiet_on)));refine wpQuiet_nil ?_;(try clear w');intro w' hS)
      have HB:=bits_and (s.limAt i) (plusB (sums out (k.fills i)) (spanB (s.losAt i).1 (s.losAt i).2)) (by have:=hs.limAt_lt i;omega) (by have:=plusB_lt (sums out (k.fills i)) (spanB (s.losAt i).1 (s.losAt i).2);omega)
      replace HB:=mkHid HB
      have HS2:=limC_set out i (upOne k s (upAt k s m) i)
      rw [HF.out] at HS2
      replace HS2:=mkHid HS2
      go_wp2_with ((((with_reducible refine gS ?_);refine qs1 hS rfl rfl rfl ?_);refine ⟨_,zd,?_⟩;clear hS;(try clear w');intro a' hp;(try simp only [fr] at hp);subst hp;intro w' hS;(try simp only [sE] at hS));try (simp only [HB.out,← HU.out,HS2.out] at hS))
      go_roundw
      case rel=>exact ⟨m+1,by omega,by rw [HM.out],hS⟩
      case measure =>
       show ((i:Int) - 1+1).toNat < ((i:Int)+1).toNat
       omega
  ·obtain rfl:m=k.n:=by omega
   have e1:(k.n:Int) - 1 - k.n=-1:=by omega
   rw [e1]
   have HO:(limC (upAt k s k.n)).length=6:=by rw [limC_len,upAt_len]
   go_wp2_with ((first | ((with_reducible refine gL ?_);refine qln hS rfl rfl rfl ?_) | ((with_reducible refine gS ?_);refine qsall hS rfl rfl rfl ?_));refine ⟨_,zd,?_⟩;clear hS;(try clear w');intro a' hp;(try simp only [fr] at hp);subst hp;intro w' hS;(try simp only [sE] at hS))
   ((try simp only [Exit.inBlock,Exit.then]);(try refine bodyPost_norm ?_);refine ret_by ⟨_,by exact results1 (r1:=.cell 4 96) (by kernel_rfl) (by exact rs_n hS rfl zd),?_⟩ rfl)
   exact ⟨rfl,hS.toKp⟩
end Go.Proofs.YtjjmefieegcddaaDoor
namespace Go.Proofs.YtjjmefieegcddaaDoor
open Go.RowKit Go.Wg Go.Mm
set_option maxHeartbeats 1000000 in
theorem settle_ok (V:View) (p:Nat) (k:Wk) (hC:Cellar V p k) (s:SS) (hs:s.WF) (w:World) (hV:V.In w) :
  Calls Tryd.prog 116 #[ptr p,.agg (stC s).toArray] w fun r w'=>r=.returned (settleV k s)∧Kp w w':=by
 obtain ⟨ts,vv,rv,hC'⟩:=id hC
 obtain ⟨g,cap,hc2,hts⟩:=hC'.c2
 have hn0:=hC'.pos
 have hn6:=hC'.le
 have HL:(stC s).length=18:=stC_len hs
 have HU:(limC (up k s)).length=6:=by rw [limC_len];exact upAt_len k s _
 have hS:=St.start w V hV
 clear hts hC'
 unfold ptr
 go_enter Tryd.func116,Tryd.ntmps116
 go_wp2_with (first | (first | ((first | ((with_reducible refine gL ?_);first | refine qln hS rfl rfl rfl ?_ | refine qv1 hS rfl rfl rfl ?_) | ((with_reducible refine gS ?_);refine qsall hS rfl rfl rfl ?_));refine ⟨_,zd,?_⟩;clear hS;(try clear w');intro a' hp;(try simp only [fr] at hp);subst hp;intro w' hS;(try simp only [sE] at hS)) | ((with_reducible refine gB ?_);refine qboxd 3 rfl hS rfl rfl rfl ?_;refine ⟨_,za,?_⟩;clear hS;(try clear w');intro b3;intro a' hp;(try simp only [fr] at hp);subst hp;intro w' hS) | ((with_reducible refine gA ?_);refine qallocd 5 rfl hS rfl rfl ?_;clear hS;(try clear w');intro b5;intro a' hp;(try simp only [fr] at hp);subst hp;intro w' hS)) | ((with_reducible refine gC ?_);refine calls_by hS ⟨_,by (go_at_call 92;exact up_ok _ _ _ (by assumption) _ zc _ (St.view (by assumption))),?_⟩;clear hS;(try clear w');intro w' hS))
 go_loopw [6] (fun i wr=>∃ m:Nat,m≤k.n∧i=.int .i64 ((k.n:Int) - 1 - m)∧(∀ j,k.n - m≤j→j < k.n→(up k s).getD j 0≠0)∧St w [] V [.blk b5 96 (limC (up k s)),.blk b3 100 (stC s)] wr) (fun i _=>((intOf i)+1).toNat)
 case atStart=>exact ⟨0,by omega,by simp,fun j h1 h2=>by omega,hS⟩
 case round =>
  clear hS
  obtain ⟨m,hm,rfl,hz,hS⟩:=hrel
  by_cases hlt:m < k.n
  ·obtain ⟨i,hi⟩:∃ i,i+m+1=k.n:=⟨k.n - 1 - m,by omega⟩
   have e1:(k.n:Int) - 1 - m=(i:Int):=by omega
   rw [e1]
   have h0:(0:Int)≤i:=by omega
   have h1:(i:Int) < 6:=by omega
   have HM:(i:Int) - 1=(k.n:Int) - 1 - ((m+1:Nat):Int):=by omega
   replace HM:=mkHid HM
   have hu:=limC_get (l:=up k s) (i:=i) (by rw [limC_len] at HU;omega)
   have HZ:(up k s).getD i 0=0→Go.Wg.settle k s=some i:=fun h=>settle_some (by omega) h fun j h1 h2=>hz j (by omega) h2
   have HN:(up k s).getD i 0≠0→∀ j,k.n - (m+1)≤j→j < k.n→(up k s).getD j 0≠0:=fun h j h1 h2=>by
    rcases Nat.lt_or_ge i j with h3 | h3
    ·exact hz j (by omega) h2
    ·obtain rfl:j=i:=by omega
     exact h
   replace HZ:=mkHid HZ;replace HN:=mkHid HN;replace hz:=mkHid hz
   generalize (up k s).getD i 0=u at hu HZ HN
   by_cases hu0:u=0
   ·subst hu0
    go_wp2_with (((with_reducible refine gL ?_);refine ql1 hS rfl rfl rfl ?_);refine ⟨_,zd,?_⟩;clear hS;(try clear w');intro a' hp;(try simp only [fr] at hp);subst hp;intro w' hS;(try simp only [sE] at hS))
    go_ret
    refine ⟨?_,hS.toKp⟩
    unfold settleV
    rw [HZ.out (by simp)]
    rfl
   ·have hu1:(((u:Nat):Int) == 0)=false:=by rw [beq_eq_false_iff_ne];omega
    go_wp2_with (((with_reducible refine gL ?_);refine ql1 hS rfl rfl rfl ?_);refine ⟨_,zd,?_⟩;clear hS;(try clear w');intro a' hp;(try simp only [fr] at hp);subst hp;intro w' hS;(try simp only [sE] at hS))
    go_roundw
    case rel=>exact ⟨m+1,by omega,by rw [HM.out],HN.out hu0,hS⟩
    case measure =>
     show ((i:Int) - 1+1).toNat < ((i:Int)+1).toNat
     omega
  ·obtain rfl:m=k.n:=by omega
   have e1:(k.n:Int) - 1 - k.n=-1:=by omega
   rw [e1]
   have HN:Go.Wg.settle k s=none:=settle_none fun j hj=>hz j (by omega) hj
   replace HN:=mkHid HN;clear hz
   go_wp2_with (fail)
   go_ret
   refine ⟨?_,hS.toKp⟩
   unfold settleV
   rw [HN.out]
   rfl
end Go.Proofs.YtjjmefieegcddaaDoor
namespace Go.Proofs.YtjjmefieegcddaaDoor
open Go.RowKit Go.Wg Go.Mm
abbrev GV (V:View):Prop:=V.Cell 0 0 errT
set_option maxRecDepth 20000 in
set_option maxHeartbeats 1000000 in
theorem can_ok (V:View) (p:Nat) (k:Wk) (hC:Cellar V p k) (hG:GV V) (s:SS) (hs:s.WF) (w:World) (hV:V.In w) :
  Calls Tryd.prog 78 #[ptr p,.agg (stC s).toArray] w fun r w'=>r=.returned (.bool (can k s))∧Kp w w':=by
 have HL:(stC s).length=18:=stC_len hs
 have hS:=St.start w V hV
 unfold can
 cases hst:Go.Wg.settle k s with
 | none =>
  have HV:settleV k s=.nilIface:=by unfold settleV;rw [hst]
  replace hst:=mkHid hst
  go_enter Tryd.func78,Tryd.ntmps78
  go_wp2_with (first | (first | (((with_reducible refine gL ?_);refine qln hS rfl rfl rfl ?_);refine ⟨_,zd,?_⟩;clear hS;(try clear w');intro a' hp;(try simp only [fr] at hp);subst hp;intro w' hS;(try simp only [sE] at hS)) | ((first | ((with_reducible refine gA ?_);refine qalloc hS rfl rfl ?_) | ((with_reducible refine gB ?_);refine qbox hS rfl rfl rfl ?_;refine ⟨_,za,?_⟩));clear hS;(try clear w');intro _;intro a' hp;(try simp only [fr] at hp);subst hp;intro w' hS)) | ((with_reducible refine gC ?_);refine calls_by hS ⟨_,by (go_at_call 116;exact settle_ok _ _ _ (by assumption) _ zc _ (St.view (by assumption))),?_⟩;clear hS;(try clear w');intro w' hS) | (go_at_call 115;refine (as_nil _ _).mono ?_;rintro _ w' ⟨rfl,rfl⟩))
  go_ret
  exact ⟨rfl,hS.toKp⟩
 | some i =>
  have HV:settleV k s=.iface 152 (.agg #[.int .i64 (i:Int)]):=by unfold settleV;rw [hst]
  replace hst:=mkHid hst
  go_enter Tryd.func78,Tryd.ntmps78
  go_wp2_with (first | (first | (((with_reducible refine gL ?_);refine qln hS rfl rfl rfl ?_);refine ⟨_,zd,?_⟩;clear hS;(try clear w');intro a' hp;(try simp only [fr] at hp);subst hp;intro w' hS;(try simp only [sE] at hS)) | ((first | ((with_reducible refine gA ?_);refine qalloc hS rfl rfl ?_) | ((with_reducible refine gB ?_);refine qbox hS rfl rfl rfl ?_;refine ⟨_,za,?_⟩));clear hS;(try clear w');intro _;intro a' hp;(try simp only [fr] at hp);subst hp;intro w' hS)) | ((with_reducible refine gC ?_);refine calls_by hS ⟨_,by (go_at_call 116;exact settle_ok _ _ _ (by assumption) _ zc _ (St.view (by assumption))),?_⟩;clear hS;(try clear w');intro w' hS) | (go_at_call 115;refine (as_hit _ _ _ _ (View.Cell.cell hG hS.view) (hS.at (j:=0) rfl)).mono ?_;rintro _ w' ⟨rfl,hk⟩;replace hS:=hS.but rfl hk;clear hk))
  go_ret
  exact ⟨rfl,hS.toKp⟩
end Go.Proofs.YtjjmefieegcddaaDoor
namespace Go.Proofs.YtjjmefieegcddaaDoor
open Go.RowKit Go.Wg Go.Mm
theorem outside_ok (n lo hi:Int) (w:World) :
  Calls Tryd.prog 88 #[.int .i64 n,.int .i64 lo,.int .i64 hi] w fun r w'=>r=.returned (.bool (decide (n < lo) || decide (hi < n)))∧w'=w:=by
 go_enter Tryd.func88,Tryd.ntmps88
 go_wp2
 all_goals (go_ret;simp_all)
theorem unless_ok (b:Bool) (e:Int) (w:World) :
  Calls Tryd.prog 87 #[.bool b,.int .i64 e] w fun r w'=>r=.returned (.int .i64 (if b then 0 else e))∧w'=w:=by
 cases b
 all_goals
  go_enter Tryd.func87,Tryd.ntmps87
  go_wp2
  go_ret
  exact ⟨rfl,rfl⟩
theorem none_ok (r:Rdg) (w:World):Calls Tryd.prog 80 #[.agg r.cells.toArray] w fun e w'=>e=.returned (.bool (noneB r))∧Kp w w':=by
 have hS:=St.start w (fun _=>none) (fun k o h=>by cases h)
 unfold Rdg.cells
 go_enter Tryd.func80,Tryd.ntmps80
 go_wp2_with (((with_reducible refine gB ?_);refine qbox hS rfl rfl rfl ?_;refine ⟨_,za,?_⟩);clear hS;(try clear w');intro _;intro a' hp;(try simp only [fr] at hp);subst hp;intro w' hS)
 go_ret
 exact ⟨rfl,hS.toKp⟩
set_option maxRecDepth 20000 in
set_option maxHeartbeats 1000000 in
theorem now_none (V:View) (p:Nat) (k:Wk) (hC:Cellar V p k) (hok:k.Ok) (bv:Value) (hbv:(⟨#[],[]⟩:Act).eval (.func 80)=bv) (w:World) (hV:V.In w) :
  Calls Tryd.prog 79 #[ptr p,bv] w fun r w'=>r=.returned (.agg (stC (nowS k noneB)).toArray)∧Kp w w':=by
 obtain ⟨ts,vv,rv,hC'⟩:=id hC
 obtain ⟨va,vcap,rfl,hvc,hvm,hve⟩:=hC'.ves.is
 obtain ⟨ra,rcap,rfl,hrc,hrm,hre⟩:=hC'.rdg.is
 have hc0:=hC'.c0
 have hc1:=hC'.c1
 have hn0:=hC'.pos
 have hn6:=hC'.le
 have hr6:=hok.rdl
 obtain ⟨vg,vo,rfl,hvr⟩:=hve hn0
 have hS:=St.start w V hV
 clear hC'
 unfold ptr
 simp only [Act.eval] at hbv
 subst hbv
 go_enter Tryd.func79,Tryd.ntmps79
 go_wp2_with (first | (((with_reducible refine gL ?_);refine qv1 hS rfl rfl rfl ?_);refine ⟨_,zd,?_⟩;clear hS;(try clear w');intro a' hp;(try simp only [fr] at hp);subst hp;intro w' hS;(try simp only [sE] at hS)) | ((with_reducible refine gA ?_);refine qallocd 4 rfl hS rfl rfl ?_;clear hS;(try clear w');intro b4;intro a' hp;(try simp only [fr] at hp);subst hp;intro w' hS) | ((with_reducible refine gA ?_);refine qallocd 5 rfl hS rfl rfl ?_;clear hS;(try clear w');intro b5;intro a' hp;(try simp only [fr] at hp);subst hp;intro w' hS))
 go_loopw [16] (fun i wr=>∃ m:Nat,m≤k.n∧i=.int .i64 (m:Int)∧St w [] V [.blk b5 100 (stC (nowA k m)),.blk b4 100 (List.replicate 6 (.int .u64 0) ++ List.replicate 12 (.int .i64 0))] wr) (fun i _=>k.n - (intOf i).toNat)
 case atStart=>exact ⟨0,by omega,rfl,hS⟩
 case round =>
  clear hS
  obtain ⟨m,hm,rfl,hS⟩:=hrel
  by_cases hlt:m < k.n
  ·have h0:(0:Int)≤m:=by omega
   have h1:(m:Int) < k.n:=by omega
   have h6:m < 6:=by omega
   have h7:(m:Int) < 6:=by omega
   have hcell:=hvr m hlt
   have hcl:(k.v m).cells.length=4:=rfl
   have HLn:(stC (nowA k m)).length=18:=stC_len (nowA_wf k m)
   clear hvr hve hre
   go_wp2_with (first | ((first | ((with_reducible refine gL ?_);refine qvn hS rfl rfl rfl ?_) | ((with_reducible refine gS ?_);refine qsall hS rfl rfl rfl ?_));refine ⟨_,zd,?_⟩;clear hS;(try clear w');intro a' hp;(try simp only [fr] at hp);subst hp;intro w' hS;(try simp only [sE] at hS)) | ((with_reducible refine gA ?_);refine qallocd 7 rfl hS rfl rfl ?_;clear hS;(try clear w');intro b7;intro a' hp;(try simp only [fr] at hp);subst hp;intro w' hS))
   unfold Ves.cells at hS
   have HS1:(stC (nowA k m)).set m (.int .u64 (spanB 0 (k.v m).room:Nat))=stC ((nowA k m).setLim m (spanB 0 (k.v m).room)):=stC_setlim (nowA_wf k m) h6 _
   replace HS1:=mkHid HS1
   (refine held_start (S:=(St w [] V [.blk b7 29 [.int .i64 (k.v m).from_,.int .i64 (k.v m).room,.int .i64 (k.v m).lo,.int .i64 (k.v m).hi],.blk b4 100 (List.replicate 6 (.int .u64 0) ++ List.replicate 12 (.int .i64 0))])) [false,false,false,false,false,false,false,false,false,false,false,false,false] rfl (by kernel_rfl) ?_;replace hS:=St.drew1 hS;(iterate 8 ((first | refine hxm 0 rfl ?_ | refine hxm 1 rfl ?_ | refine hxp 2 rfl ?_ | refine hxa 3 rfl ?_ | refine hxp 5 rfl ?_ | refine hxb 6 rfl ?_ | refine hxp 7 rfl ?_ | refine hxp 10 rfl ?_);intro a' l' hp hl;(try simp only [fr] at hp);(try simp only [sB] at hl);subst hp;subst hl));(refine he_con 4 (by kernel_rfl) rfl hS rfl  ?_;refine ⟨_,_,zo,?_⟩;refine ⟨_,by (go_at_call 100;exact span_ok _ _ _),?_⟩;clear hS;(try clear w');intro a' l' hp hl;(try simp only [fr] at hp);(try simp only [sB] at hl);subst hp;subst hl;intro w' hS;refine ⟨(St.subI hS),?_⟩);(refine hxp 8 rfl ?_;intro a' l' hp hl;(try simp only [fr] at hp);(try simp only [sB] at hl);subst hp;subst hl);((refine he_s1 9 (by kernel_rfl) rfl hS rfl  rfl rfl ?_;refine ⟨_,zd,?_⟩);clear hS;(try clear w');intro a' l' hp hl;(try simp only [fr] at hp);(try simp only [sB] at hl);subst hp;subst hl;intro w' hS;(try simp only [sE] at hS);refine ⟨(St.subI hS),?_⟩);(refine hxp 11 rfl ?_;intro a' l' hp hl;(try simp only [fr] at hp);(try simp only [sB] at hl);subst hp;subst hl);((refine he_sn 12 (by kernel_rfl) rfl hS rfl  rfl rfl ?_;refine ⟨_,zd,?_⟩);clear hS;(try clear w');intro a' l' hp hl;(try simp only [fr] at hp);(try simp only [sB] at hl);subst hp;subst hl;intro w' hS;(try simp only [sE] at hS);refine ⟨(St.subI hS),?_⟩);refine wpAnyH_done (by kernel_rfl) ?_ _)
   have HS2:=splice_losC ((nowA k m).setLim m (spanB 0 (k.v m).room)) ((nowA_wf k m).setLim (spanB_lt _ _)) m h6 (k.v m).lo (k.v m).hi
   rw [HS1.out,HS2] at hS
   replace hS:=hS.drop
   clear HS1 HS2 HLn hcell hcl
   go_wp2_with (fail)
   go_roundw
   case rel=>exact ⟨m+1,by omega,by go_num,hS⟩
   case measure=>simp [intOf];omega
  ·obtain rfl:m=k.n:=by omega
   clear hvr hve
   have HLn:(stC (nowA k k.n)).length=18:=stC_len (nowA_wf k k.n)
   go_wp2_with (((with_reducible refine gL ?_);refine qv1 hS rfl rfl rfl ?_);refine ⟨_,zd,?_⟩;clear hS;(try clear w');intro a' hp;(try simp only [fr] at hp);subst hp;intro w' hS;(try simp only [sE] at hS))
   go_loopw [39] (fun i wr=>∃ q:Nat,q≤k.rdg.length∧i=.int .i64 (q:Int)∧St w [] V [.blk b5 100 (stC ((k.rdg.take q).foldl (rdOne noneB) (nowA k k.n))),.blk b4 100 (List.replicate 6 (.int .u64 0) ++ List.replicate 12 (.int .i64 0))] wr) (fun i _=>k.rdg.length - (intOf i).toNat)
   case atStart=>exact ⟨0,by omega,rfl,hS⟩
   case round =>
    clear hS
    obtain ⟨q,hq,rfl,hS⟩:=hrel
    have hwf:((k.rdg.take q).foldl (rdOne noneB) (nowA k k.n)).WF:=rds_wf (nowA_wf k k.n) _
    by_cases hqt:q < k.rdg.length
    ·have h0:(0:Int)≤q:=by omega
     have h1:(q:Int) < k.rdg.length:=by omega
     obtain ⟨rg,ro,rfl,hrr⟩:=hre (by omega)
     have hcell:=hrr q hqt
     obtain ⟨ov1,ov2,_,_,os1,os2,oe1,oe2⟩:=hok.rdg q hqt
     have HN:(k.rdg.take (q+1)).foldl (rdOne noneB) (nowA k k.n)=rdOne noneB ((k.rdg.take q).foldl (rdOne noneB) (nowA k k.n)) (k.rdg.getD q default):=by
      rw [List.take_succ_eq_append_getElem hqt,List.foldl_append]
      simp [List.getD_eq_getElem?_getD,List.getElem?_eq_getElem hqt]
     replace HN:=mkHid HN
     generalize k.rdg.getD q default=r at hcell ov1 ov2 os1 os2 oe1 oe2 HN
     obtain ⟨x,hx⟩:∃ x:Nat,r.vessel=(x:Int):=⟨r.vessel.toNat,by omega⟩
     have hx6:x < 6:=by omega
     have hx6':(x:Int) < 6:=by omega
     have hx0:(0:Int)≤x:=by omega
     generalize (k.rdg.take q).foldl (rdOne noneB) (nowA k k.n)=s at hwf hS HN
     have HLs:(stC s).length=18:=stC_len hwf
     have hlx:=stC_lim hwf hx6
     have hcl:r.cells.length=4:=rfl
     clear hrr hre HLn
     have HB:=bits_and (s.limAt x) (spanB (r.shown - r.err) (r.shown+r.err)) (by have:=hwf.limAt_lt x;omega) (by have:=spanB_lt (r.shown - r.err) (r.shown+r.err);omega)
     replace HB:=mkHid HB
     have HS:=stC_setlim hwf hx6 (s.limAt x &&& spanB (r.shown - r.err) (r.shown+r.err))
     replace HS:=mkHid HS
     have HR:rdOne noneB s r=s.setLim x (s.limAt x &&& spanB (r.shown - r.err) (r.shown+r.err)):=by
      unfold rdOne noneB
      rw [hx]
      rfl
     replace HR:=mkHid HR
     go_wp2_with (first | (first | ((first | ((with_reducible refine gL ?_);first | refine qln hS rfl rfl rfl ?_ | refine qvn hS rfl rfl rfl ?_) | ((with_reducible refine gS ?_);refine qsall hS rfl rfl rfl ?_));refine ⟨_,zd,?_⟩;clear hS;(try clear w');intro a' hp;(try simp only [fr] at hp);subst hp;intro w' hS;(try simp only [sE] at hS)) | (((with_reducible refine gA ?_);refine qalloc hS rfl rfl ?_);clear hS;(try clear w');intro _;intro a' hp;(try simp only [fr] at hp);subst hp;intro w' hS)) | (go_at_call 80;refine calls_go (by assumption) (none_ok r _) ?_;intro w' hS))
     have hc0:r.cells=[.int .i64 x,.int .i64 r.scale,.int .i64 r.shown,.int .i64 r.err]:=by unfold Rdg.cells;rw [hx]
     rw [hc0] at hS
     (refine wp_region_quiet_tail 19 (by kernel_rfl) (by kernel_rfl) (St.drew1 hS) ?_;simp only [List.take_succ_cons,List.take_zero,List.drop_succ_cons,List.drop_zero];clear hS;(repeat ((go_big_quiet_want;(first | ((with_reducible refine gqL ?_);(refine quiet_l1 rfl rfl ?_);refine ⟨_,zd,?_⟩;intro a' hp;(try simp only [fr] at hp);subst hp) | ((with_reducible refine gqV ?_);refine quiet_con ?_;refine ⟨_,_,by (intro _;go_simp;exact ⟨rfl,rfl⟩),?_⟩;refine ⟨_,by (intro w' hS;((go_at_call 100;exact span_ok _ _ _))),?_⟩;intro a' hp;(try simp only [fr] at hp);subst hp) | (refine quiet_pure ?_;refine ⟨_,zp,?_⟩;intro a' hp;(try simp only [fr] at hp);subst hp));go_big_quiet_on)));refine wpQuiet_nil ?_;(try clear w');intro w' hS)
     go_wp2_with ((((with_reducible refine gS ?_);refine qs1 hS rfl rfl rfl ?_);refine ⟨_,zd,?_⟩;clear hS;(try clear w');intro a' hp;(try simp only [fr] at hp);subst hp;intro w' hS;(try simp only [sE] at hS));try (simp only [HB.out,HS.out,← HR.out,← HN.out] at hS))
     replace hS:=hS.drop
     go_roundw
     case rel=>exact ⟨q+1,by omega,by go_num,hS⟩
     case measure=>simp [intOf];omega
    ·obtain rfl:q=k.rdg.length:=by omega
     simp only [List.take_length] at hS hwf
     have HLs:=stC_len hwf
     clear hre
     go_wp2_with ((first | ((with_reducible refine gL ?_);refine qln hS rfl rfl rfl ?_) | ((with_reducible refine gS ?_);refine qsall hS rfl rfl rfl ?_));refine ⟨_,zd,?_⟩;clear hS;(try clear w');intro a' hp;(try simp only [fr] at hp);subst hp;intro w' hS;(try simp only [sE] at hS))
     ((try simp only [Exit.inBlock,Exit.then]);(try refine bodyPost_norm ?_);refine ret_by ⟨_,by exact results1 (r1:=.cell 4 100) (by kernel_rfl) (by exact rs_n hS rfl zd),?_⟩ rfl)
     exact ⟨rfl,hS.toKp⟩
end Go.Proofs.YtjjmefieegcddaaDoor
namespace Go.Proofs.YtjjmefieegcddaaDoor
open Go.RowKit Go.Wg Go.Mm
set_option maxRecDepth 20000 in
set_option maxHeartbeats 1000000 in
theorem must_ok (V:View) (p:Nat) (k:Wk) (hC:Cellar V p k) (hok:k.Ok) (hcan:can k (nowS k noneB)=true) (w:World) (hV:V.In w) :
  Calls Tryd.prog 83 #[ptr p] w fun r w'=>r=.returned (.agg (stC (nowS k noneB)).toArray)∧Kp w w':=by
 have hwf:=nowS_wf k noneB
 have HL:(stC (nowS k noneB)).length=18:=stC_len hwf
 have HV:settleV k (nowS k noneB)=.nilIface:=by
  unfold settleV
  unfold can at hcan
  rw [Option.isNone_iff_eq_none] at hcan
  rw [hcan]
 have hS:=St.start w V hV
 replace hcan:=mkHid hcan
 unfold ptr
 go_enter Tryd.func83,Tryd.ntmps83
 go_wp2_with (first | (first | ((first | ((with_reducible refine gL ?_);refine qln hS rfl rfl rfl ?_) | ((with_reducible refine gS ?_);refine qsall hS rfl rfl rfl ?_));refine ⟨_,zd,?_⟩;clear hS;(try clear w');intro a' hp;(try simp only [fr] at hp);subst hp;intro w' hS;(try simp only [sE] at hS)) | (((with_reducible refine gA ?_);refine qalloc hS rfl rfl ?_);clear hS;(try clear w');intro _;intro a' hp;(try simp only [fr] at hp);subst hp;intro w' hS)) | ((with_reducible refine gC ?_);refine calls_by hS ⟨_,by (first | (go_at_call 116;exact settle_ok _ _ _ (by assumption) _ zc _ (St.view (by assumption))) | (go_at_call 79;exact now_none _ _ _ (by assumption) (by assumption) _ rfl _ (St.view (by assumption)))),?_⟩;clear hS;(try clear w');intro w' hS))
 ((try simp only [Exit.inBlock,Exit.then]);(try refine bodyPost_norm ?_);refine ret_by ⟨_,by exact results1 (r1:=.cell 2 100) (by kernel_rfl) (by exact rs_n hS rfl zd),?_⟩ rfl)
 exact ⟨rfl,hS.toKp⟩
set_option maxRecDepth 20000 in
set_option maxHeartbeats 1000000 in
theorem must_no (V:View) (p:Nat) (k:Wk) (hC:Cellar V p k) (hok:k.Ok) (i:Nat) (hno:Go.Wg.settle k (nowS k noneB)=some i) (w:World) (hV:V.In w) :
  Calls Tryd.prog 83 #[ptr p] w fun r w'=>r=.panicked [{ v:=.iface 152 (.agg #[.int .i64 (i:Int)]),recovered:=false }]∧Kp w w':=by
 have hwf:=nowS_wf k noneB
 have HL:(stC (nowS k noneB)).length=18:=stC_len hwf
 have HV:settleV k (nowS k noneB)=.iface 152 (.agg #[.int .i64 (i:Int)]):=by
  unfold settleV
  rw [hno]
 have hS:=St.start w V hV
 replace hno:=mkHid hno
 unfold ptr
 go_enter Tryd.func83,Tryd.ntmps83
 go_wp2_with (first | (first | ((first | ((with_reducible refine gL ?_);refine qln hS rfl rfl rfl ?_) | ((with_reducible refine gS ?_);refine qsall hS rfl rfl rfl ?_));refine ⟨_,zd,?_⟩;clear hS;(try clear w');intro a' hp;(try simp only [fr] at hp);subst hp;intro w' hS;(try simp only [sE] at hS)) | (((with_reducible refine gA ?_);refine qalloc hS rfl rfl ?_);clear hS;(try clear w');intro _;intro a' hp;(try simp only [fr] at hp);subst hp;intro w' hS)) | ((with_reducible refine gC ?_);refine calls_by hS ⟨_,by (first | (go_at_call 116;exact settle_ok _ _ _ (by assumption) _ zc _ (St.view (by assumption))) | (go_at_call 79;exact now_none _ _ _ (by assumption) (by assumption) _ rfl _ (St.view (by assumption)))),?_⟩;clear hS;(try clear w');intro w' hS))
 exact ⟨rfl,rfl,hS.toKp⟩
end Go.Proofs.YtjjmefieegcddaaDoor
namespace Go.Proofs.YtjjmefieegcddaaDoor
open Go.RowKit Go.Wg Go.Mm
theorem min_if (a b:Int):(if b < a then b else a)=min a b:=by split <;> omega
set_option maxRecDepth 20000 in
set_option maxHeartbeats 1000000 in
theorem weight_ok (V:View) (p:Nat) (k:Wk) (hC:Cellar V p k) (hG:GV V) (s:SS) (hs:s.WF) (v:Nat) (hv:v < 6) (w:World) (hV:V.In w) :
  Calls Tryd.prog 99 #[ptr p,.agg (stC s).toArray,.int .i64 v] w fun r w'=>r=.returned (spanV (weightS k s v))∧Kp w w':=by
 have HL:(stC s).length=18:=stC_len hs
 have hS:=St.start w V hV
 unfold ptr
 go_enter Tryd.func99,Tryd.ntmps99
 go_wp2_with (first | (((with_reducible refine gS ?_);refine qsall hS rfl rfl rfl ?_);refine ⟨_,zd,?_⟩;clear hS;(try clear w');intro a' hp;(try simp only [fr] at hp);subst hp;intro w' hS;(try simp only [sE] at hS)) | ((with_reducible refine gB ?_);refine qboxd 4 rfl hS rfl rfl rfl ?_;refine ⟨_,za,?_⟩;clear hS;(try clear w');intro b4;intro a' hp;(try simp only [fr] at hp);subst hp;intro w' hS) | ((with_reducible refine gA ?_);refine qallocd 6 rfl hS rfl rfl ?_;clear hS;(try clear w');intro b6;intro a' hp;(try simp only [fr] at hp);subst hp;intro w' hS) | ((with_reducible refine gA ?_);refine qallocd 7 rfl hS rfl rfl ?_;clear hS;(try clear w');intro b7;intro a' hp;(try simp only [fr] at hp);subst hp;intro w' hS))
 go_loopw [10] (fun i wr=>∃ m:Nat,m≤41∧i=.int .i64 (m:Int)∧St w [] V [.blk b7 27 [.int .i64 (weightTo k s v m).1,.int .i64 (weightTo k s v m).2],.blk b6 27 (List.replicate 2 (.int .i64 0)),.blk b4 100 (stC s)] wr) (fun i _=>41 - (intOf i).toNat)
 case atStart=>exact ⟨0,by omega,rfl,hS⟩
 case round =>
  clear hS
  obtain ⟨m,hm,rfl,hS⟩:=hrel
  have hbd:=weightTo_bd k s v m hm
  by_cases hlt:m < 41
  ·have h0:(0:Int)≤m:=by omega
   have h1:(m:Int) < 41:=by omega
   have HN:weightTo k s v (m+1)=if can k (s.weighed v (m:Nat)) then (min (weightTo k s v m).1 m,(m:Int)) else weightTo k s v m:=rfl
   replace HN:=mkHid HN
   generalize weightTo k s v m=pr at hS HN hbd
   obtain ⟨lo,hi⟩:=pr
   simp only at hS hbd
   generalize hcn:can k (s.weighed v (m:Nat))=cn at HN
   have hw:=hs.weighed v (m:Nat)
   have hcon:∀ w',V.In w'→Calls Tryd.prog 78 #[.pointer (some ⟨p,0,none⟩),.agg (stC (s.weighed v (m:Nat))).toArray] w' fun r w''=>r=.returned (.bool cn)∧Kp w' w'':=fun w' hV'=>by rw [← hcn];exact can_ok V p k hC hG _ hw w' hV'
   replace hcn:=mkHid hcn
   cases cn
   ·go_wp2_with (first | (((with_reducible refine gL ?_);refine qln hS rfl rfl rfl ?_);refine ⟨_,zd,?_⟩;clear hS;(try clear w');intro a' hp;(try simp only [fr] at hp);subst hp;intro w' hS;(try simp only [sE] at hS)) | (go_at_call 78;refine calls_go (by assumption) (hcon _ (St.view (by assumption))) ?_;intro w' hS) | ((with_reducible refine gC ?_);refine calls_by hS ⟨_,by (go_at_call 84;exact weighed_ok _ zc _ zc _ _),?_⟩;clear hS;(try clear w');intro w' hS))
    go_roundw
    case rel=>exact ⟨m+1,by omega,by go_num,by rw [HN.out,if_neg (by simp)];exact hS⟩
    case measure=>simp [intOf];omega
   ·go_wp2_with (first | ((first | ((with_reducible refine gL ?_);first | refine ql1 hS rfl rfl rfl ?_ | refine qln hS rfl rfl rfl ?_) | ((with_reducible refine gS ?_);refine qsall hS rfl rfl rfl ?_));refine ⟨_,zd,?_⟩;clear hS;(try clear w');intro a' hp;(try simp only [fr] at hp);subst hp;intro w' hS;(try simp only [sE] at hS)) | (go_at_call 78;refine calls_go (by assumption) (hcon _ (St.view (by assumption))) ?_;intro w' hS) | ((with_reducible refine gC ?_);refine calls_by hS ⟨_,by (go_at_call 84;exact weighed_ok _ zc _ zc _ _),?_⟩;clear hS;(try clear w');intro w' hS))
    go_roundw
    case rel=>exact ⟨m+1,by omega,by go_num,by rw [HN.out,if_pos (by simp),← min_if];exact hS⟩
    case measure=>simp [intOf];omega
  ·obtain rfl:m=41:=by omega
   go_wp2_with ((first | ((with_reducible refine gL ?_);refine qln hS rfl rfl rfl ?_) | ((with_reducible refine gS ?_);refine qsall hS rfl rfl rfl ?_));refine ⟨_,zd,?_⟩;clear hS;(try clear w');intro a' hp;(try simp only [fr] at hp);subst hp;intro w' hS;(try simp only [sE] at hS))
   ((try simp only [Exit.inBlock,Exit.then]);(try refine bodyPost_norm ?_);refine ret_by ⟨_,by exact results1 (r1:=.cell 6 27) (by kernel_rfl) (by exact rs_n hS rfl zd),?_⟩ rfl)
   exact ⟨rfl,hS.toKp⟩
end Go.Proofs.YtjjmefieegcddaaDoor
namespace Go.Proofs.YtjjmefieegcddaaDoor
open Go.RowKit Go.Wg Go.Mm
theorem find_range {P:Nat→Bool} {n m:Nat} (hm:m < n) (h:P m=true) (h0:∀ j,j < m→P j=false):(List.range n).find? P=some m:=by
 induction n with
 | zero=>omega
 | succ n ih =>
  rw [List.range_succ,List.find?_append]
  by_cases hmn:m < n
  ·rw [ih hmn];rfl
  ·have:m=n:=by omega
   subst this
   have:(List.range m).find? P=none:=by
    rw [List.find?_eq_none]
    intro j hj
    rw [h0 j (List.mem_range.1 hj)];simp
   rw [this]
   simp [h]
theorem find_range_none {P:Nat→Bool} {n:Nat} (h0:∀ j,j < n→P j=false):(List.range n).find? P=none:=by
 rw [List.find?_eq_none]
 intro j hj
 rw [h0 j (List.mem_range.1 hj)];simp
def beyondV:Option Nat→Value
 | none=>.tuple #[.int .i64 0,.bool false]
 | some n=>.tuple #[.int .i64 n,.bool true]
set_option maxRecDepth 20000 in
set_option maxHeartbeats 1000000 in
theorem beyond_ok (V:View) (p:Nat) (k:Wk) (hC:Cellar V p k) (hok:k.Ok) (hG:GV V) (v:Nat) (hv:v < 6) (hhi0:0≤((nowS k noneB).losAt v).2) (hhi:((nowS k noneB).losAt v).2≤100) (w:World) (hV:V.In w) :
  Calls Tryd.prog 101 #[ptr p,.int .i64 v] w fun r w'=>r=.returned (beyondV (beyondS k v))∧Kp w w':=by
 have hwf:=nowS_wf k noneB
 have HL:(stC (nowS k noneB)).length=18:=stC_len hwf
 have hv6':(v:Int) < 6:=by omega
 have hv0:(0:Int)≤v:=by omega
 have hS:=St.start w V hV
 have HB:beyondS k v=(List.range 41).find? fun n=>can k (moreS (nowS k noneB) v n):=rfl
 replace HB:=mkHid HB
 have hz:=moreS_zero hwf hv
 replace hz:=mkHid hz
 unfold ptr
 go_enter Tryd.func101,Tryd.ntmps101
 go_wp2_with (first | (first | (((with_reducible refine gS ?_);refine qsall hS rfl rfl rfl ?_);refine ⟨_,zd,?_⟩;clear hS;(try clear w');intro a' hp;(try simp only [fr] at hp);subst hp;intro w' hS;(try simp only [sE] at hS)) | ((with_reducible refine gA ?_);refine qallocd 6 rfl hS rfl rfl ?_;clear hS;(try clear w');intro b6;intro a' hp;(try simp only [fr] at hp);subst hp;intro w' hS)) | ((with_reducible refine gC ?_);refine calls_by hS ⟨_,by (go_at_call 79;exact now_none _ _ _ (by assumption) (by assumption) _ rfl _ (St.view (by assumption))),?_⟩;clear hS;(try clear w');intro w' hS))
 generalize nowS k noneB=s at hwf HL HB hz hhi hhi0 hS ⊢
 go_loopw [10] (fun i wr=>∃ m:Nat,m≤41∧i=.int .i64 (m:Int)∧(∀ j,j < m→can k (moreS s v j)=false)∧St w [] V [.blk b6 100 (stC (moreS s v m))] wr) (fun i _=>41 - (intOf i).toNat)
 case atStart=>exact ⟨0,by omega,rfl,fun j hj=>by omega,by rw [hz.out];exact hS⟩
 case round =>
  clear hS
  obtain ⟨m,hm,rfl,hlow,hS⟩:=hrel
  by_cases hlt:m < 41
  ·have h0:(0:Int)≤m:=by omega
   have h1:(m:Int) < 41:=by omega
   have hwm:=moreS_wf hwf v m
   have hlm:(stC (moreS s v m)).length=18:=stC_len hwm
   have HN:=moreS_succ hwf hv m
   have hlh:=stC_hi hwm hv
   have hse:=stC_sethi hwm hv (((moreS s v m).losAt v).2+1)
   rw [HN] at hse
   have hval:((moreS s v m).losAt v).2=(s.losAt v).2+m:=by
    unfold moreS
    rw [SS.losAt_setLos s hwf v hv]
   have hbd:0≤((moreS s v m).losAt v).2∧((moreS s v m).losAt v).2≤141:=by omega
   clear hval
   generalize ((moreS s v m).losAt v).2=hi at hlh hse hbd
   replace hse:=mkHid hse;replace HN:=mkHid HN
   generalize hcn:can k (moreS s v m)=cn
   have hcon:∀ w',V.In w'→Calls Tryd.prog 78 #[.pointer (some ⟨p,0,none⟩),.agg (stC (moreS s v m)).toArray] w' fun r w''=>r=.returned (.bool cn)∧Kp w' w'':=fun w' hV'=>by rw [← hcn];exact can_ok V p k hC hG _ hwm w' hV'
   replace hcn:=mkHid hcn;replace hlow:=mkHid hlow
   cases cn
   ·go_wp2_with (first | (((first | ((with_reducible refine gL ?_);first | refine ql1 hS rfl rfl rfl ?_ | refine qln hS rfl rfl rfl ?_) | ((with_reducible refine gS ?_);refine qs1 hS rfl rfl rfl ?_));refine ⟨_,zd,?_⟩;clear hS;(try clear w');intro a' hp;(try simp only [fr] at hp);subst hp;intro w' hS;(try simp only [sE] at hS));try (simp only [hse.out] at hS)) | (go_at_call 78;refine calls_go (by assumption) (hcon _ (St.view (by assumption))) ?_;intro w' hS))
    go_roundw
    case rel =>
     refine ⟨m+1,by omega,by go_num,fun j hj=>?_,hS⟩
     by_cases hjm:j=m
     ·subst hjm;exact hcn.out
     ·exact hlow.out j (by omega)
    case measure=>simp only [intOf];omega
   ·go_wp2_with (first | ((((with_reducible refine gL ?_);refine qln hS rfl rfl rfl ?_);refine ⟨_,zd,?_⟩;clear hS;(try clear w');intro a' hp;(try simp only [fr] at hp);subst hp;intro w' hS;(try simp only [sE] at hS));try (simp only [hse.out] at hS)) | (go_at_call 78;refine calls_go (by assumption) (hcon _ (St.view (by assumption))) ?_;intro w' hS))
    ((try simp only [Exit.inBlock,Exit.then]);(try refine bodyPost_norm ?_);refine ret_by ⟨_,by exact results2 (r1:=.tmp 4) (r2:=.tmp 5) (by kernel_rfl) (by exact rs_tmp rfl) (by exact rs_tmp rfl),?_⟩ rfl)
    refine ⟨?_,hS.toKp⟩
    rw [HB.out,find_range hlt hcn.out hlow.out]
    rfl
  ·obtain rfl:m=41:=by omega
   replace hlow:=mkHid hlow
   go_wp2_with (fail)
   ((try simp only [Exit.inBlock,Exit.then]);(try refine bodyPost_norm ?_);refine ret_by ⟨_,by exact results2 (r1:=.tmp 4) (r2:=.tmp 5) (by kernel_rfl) (by exact rs_tmp rfl) (by exact rs_tmp rfl),?_⟩ rfl)
   refine ⟨?_,hS.toKp⟩
   rw [HB.out,find_range_none hlow.out]
   rfl
end Go.Proofs.YtjjmefieegcddaaDoor
namespace Go.Proofs.YtjjmefieegcddaaDoor
open Go.RowKit Go.Wg Go.Mm
set_option maxRecDepth 20000 in
theorem wider_ok (a b:Int × Int) (w:World):Calls Tryd.prog 126 #[spanV a,spanV b] w fun r w'=>r=.returned (spanV (widerS a b))∧Kp w w':=by
 obtain ⟨a1,a2⟩:=a
 obtain ⟨b1,b2⟩:=b
 have hS:=St.start w (fun _=>none) (fun k o h=>by cases h)
 unfold spanV
 go_enter Tryd.func126,Tryd.ntmps126
 go_wp2_with (first | ((first | ((with_reducible refine gL ?_);refine ql1 hS rfl rfl rfl ?_) | ((with_reducible refine gS ?_);refine qsall hS rfl rfl rfl ?_));refine ⟨_,zd,?_⟩;clear hS;(try clear w');intro a' hp;(try simp only [fr] at hp);subst hp;intro w' hS;(try simp only [sE] at hS)) | ((with_reducible refine gB ?_);refine qboxd 2 rfl hS rfl rfl rfl ?_;refine ⟨_,za,?_⟩;clear hS;(try clear w');intro b2;intro a' hp;(try simp only [fr] at hp);subst hp;intro w' hS) | ((first | ((with_reducible refine gA ?_);refine qalloc hS rfl rfl ?_) | ((with_reducible refine gB ?_);refine qbox hS rfl rfl rfl ?_;refine ⟨_,za,?_⟩));clear hS;(try clear w');intro _;intro a' hp;(try simp only [fr] at hp);subst hp;intro w' hS))
 all_goals
  ((try simp only [Exit.inBlock,Exit.then]);(try refine bodyPost_norm ?_);refine ret_by ⟨_,by exact results1 (r1:=.cell 4 27) (by kernel_rfl) (by exact rs_n hS rfl zd),?_⟩ rfl)
  refine ⟨?_,hS.toKp⟩
  simp only [widerS,Ending.returned.injEq,Value.agg.injEq]
  try simp
  try omega
set_option maxRecDepth 20000 in
theorem both_ok (a b:Int × Int) (h1:-9223372036854775808≤a.1+b.1) (h2:a.1+b.1≤9223372036854775807) (h3:-9223372036854775808≤a.2+b.2) (h4:a.2+b.2≤9223372036854775807) (w:World) :
  Calls Tryd.prog 127 #[spanV a,spanV b] w fun r w'=>r=.returned (spanV (bothS a b))∧Kp w w':=by
 obtain ⟨a1,a2⟩:=a
 obtain ⟨b1,b2⟩:=b
 simp only at h1 h2 h3 h4
 have hS:=St.start w (fun _=>none) (fun k o h=>by cases h)
 unfold spanV
 go_enter Tryd.func127,Tryd.ntmps127
 go_wp2_with (first | ((first | ((with_reducible refine gL ?_);refine ql1 hS rfl rfl rfl ?_) | ((with_reducible refine gS ?_);refine qsall hS rfl rfl rfl ?_));refine ⟨_,zd,?_⟩;clear hS;(try clear w');intro a' hp;(try simp only [fr] at hp);subst hp;intro w' hS;(try simp only [sE] at hS)) | ((with_reducible refine gB ?_);refine qboxd 2 rfl hS rfl rfl rfl ?_;refine ⟨_,za,?_⟩;clear hS;(try clear w');intro b2;intro a' hp;(try simp only [fr] at hp);subst hp;intro w' hS) | ((first | ((with_reducible refine gA ?_);refine qalloc hS rfl rfl ?_) | ((with_reducible refine gB ?_);refine qbox hS rfl rfl rfl ?_;refine ⟨_,za,?_⟩));clear hS;(try clear w');intro _;intro a' hp;(try simp only [fr] at hp);subst hp;intro w' hS))
 ((try simp only [Exit.inBlock,Exit.then]);(try refine bodyPost_norm ?_);refine ret_by ⟨_,by exact results1 (r1:=.cell 4 27) (by kernel_rfl) (by exact rs_n hS rfl zd),?_⟩ rfl)
 exact ⟨rfl,hS.toKp⟩
end Go.Proofs.YtjjmefieegcddaaDoor
namespace Go.Proofs.YtjjmefieegcddaaDoor
open Go.RowKit Go.Wg Go.Mm
set_option maxRecDepth 20000 in
set_option maxHeartbeats 2000000 in
theorem add_ok (gr:Gr) (hwf:gr.WF) (g n:Nat) (hn:n < 41) (v:Int × Int) (w:World) (hg:w.heap[g]? = some (.cells (grC gr).toArray 170 (0,0))) :
  Calls Tryd.prog 133 #[.pointer (some ⟨g,0,none⟩),.int .i64 n,spanV v] w fun r w'=>r=.returned (.tuple #[])∧KpBut g w w'∧w'.heap[g]? = some (.cells (grC (gr.add n v)).toArray 170 (0,0)):=by
 obtain ⟨v1,v2⟩:=v
 have hS:=St.start1 w (fun _=>none) (fun k o h=>by cases h) hg rfl
 have h0:(0:Int)≤n:=by omega
 have h1:(n:Int) < 41:=by omega
 have h64:(n:Int) < 64:=by omega
 have hL:=grC_len hwf
 have hh:=grC_has hwf
 have hj:=grC_join hwf
 have ha:=grC_at hwf hn
 have hsm:=hwf.small
 unfold joinV at hj
 unfold spanV
 cases hb:gr.has.testBit n
 ·go_enter Tryd.func133,Tryd.ntmps133
  go_wp2_with (first | (first | (((with_reducible refine gL ?_);refine ql1 hS rfl rfl rfl ?_);refine ⟨_,zd,?_⟩;clear hS;(try clear w');intro a' hp;(try simp only [fr] at hp);subst hp;intro w' hS;(try simp only [sE] at hS)) | (((with_reducible refine gB ?_);refine qbox hS rfl rfl rfl ?_;refine ⟨_,za,?_⟩);clear hS;(try clear w');intro _;intro a' hp;(try simp only [fr] at hp);subst hp;intro w' hS)) | (go_at_call 125;refine (has_ok gr.has n (by omega) (by omega) _).mono ?_;rw [hb];rintro _ w' ⟨rfl,rfl⟩))
  have hsp:=grC_setat hwf hn (v1,v2)
  have hwf':(Gr.mk (gr.at_.set n (v1,v2)) gr.has).WF:=⟨by simp [hwf.len],hwf.small⟩
  have hL':=grC_len hwf'
  have hh':=grC_has hwf'
  have hset:=grC_sethas hwf' (gr.has ||| 2 ^ n)
  have HB:bits .or .u64 (gr.has:Int) (IntKind.u64.wrap (2 ^ n))=((gr.has ||| 2 ^ n:Nat):Int):=by
   have:=wrap_shl 1 n
   have h2:(2:Nat) ^ n < 2 ^ 41:=Nat.pow_lt_pow_right (by omega) hn
   rw [Nat.one_mul,Nat.mod_eq_of_lt (by omega)] at this
   rw [show ((2:Int) ^ n)=(((1:Nat):Int) * 2 ^ n) by simp,this]
   exact bits_or _ _ (by omega) (by omega)
  have HA:gr.add n (v1,v2)=⟨gr.at_.set n (v1,v2),gr.has ||| 2 ^ n⟩:=by simp [Gr.add,hb]
  replace hset:=mkHid hset;replace HB:=mkHid HB;replace HA:=mkHid HA;replace hsp:=mkHid hsp
  (refine wp_region_quiet_tail 6 (by kernel_rfl) (by kernel_rfl) (St.drew1 hS) ?_;simp only [List.take_succ_cons,List.take_zero,List.drop_succ_cons,List.drop_zero];clear hS;(repeat ((go_big_quiet_want;(first | ((with_reducible refine gqM ?_);refine quiet_mv rfl rfl ?_;intro a' hp;(try simp only [fr] at hp);subst hp) | ((with_reducible refine gqL ?_);(refine quiet_ln rfl rfl ?_);refine ⟨_,zd,?_⟩;intro a' hp;(try simp only [fr] at hp);subst hp) | (refine quiet_pure ?_;refine ⟨_,zp,?_⟩;intro a' hp;(try simp only [fr] at hp);subst hp));go_big_quiet_on)));refine wpQuiet_nil ?_;(try clear w');intro w' hS)
  go_wp2_with ((with_reducible refine gS ?_);refine qsn hS rfl rfl rfl ?_;refine ⟨_,zd,?_⟩;clear hS;(try clear w');intro a' hp;(try simp only [fr] at hp);subst hp;intro w' hS;(try simp only [sE] at hS))
  rw [hsp.out] at hS
  (refine wp_region_quiet_tail 9 (by kernel_rfl) (by kernel_rfl) (St.drew1 hS) ?_;simp only [List.take_succ_cons,List.take_zero,List.drop_succ_cons,List.drop_zero];clear hS;(repeat ((go_big_quiet_want;(first | ((with_reducible refine gqM ?_);refine quiet_mv rfl rfl ?_;intro a' hp;(try simp only [fr] at hp);subst hp) | ((with_reducible refine gqL ?_);(refine quiet_l1 rfl rfl ?_);refine ⟨_,zd,?_⟩;intro a' hp;(try simp only [fr] at hp);subst hp) | (refine quiet_pure ?_;refine ⟨_,zp,?_⟩;intro a' hp;(try simp only [fr] at hp);subst hp));go_big_quiet_on)));refine wpQuiet_nil ?_;(try clear w');intro w' hS)
  go_wp2_with ((((with_reducible refine gS ?_);refine qs1 hS rfl rfl rfl ?_);refine ⟨_,zd,?_⟩;clear hS;(try clear w');intro a' hp;(try simp only [fr] at hp);subst hp;intro w' hS;(try simp only [sE] at hS));try (simp only [HB.out,hset.out] at hS))
  ((try simp only [Exit.inBlock,Exit.then]);(try refine bodyPost_norm ?_);refine ret_by ⟨_,by exact results0  (by kernel_rfl),?_⟩ rfl)
  exact ⟨rfl,hS.toKpBut,by rw [HA.out];exact hS.at (j:=1) rfl⟩
 ·obtain ⟨u,hu⟩:∃ u,widerS (gr.get n) (v1,v2)=u:=⟨_,rfl⟩
  have hcon:∀ w',Calls Tryd.prog 126 #[.agg #[.int .i64 (gr.get n).1,.int .i64 (gr.get n).2],.agg #[.int .i64 v1,.int .i64 v2]] w' fun r w''=>r=.returned (.agg #[.int .i64 u.1,.int .i64 u.2])∧Kp w' w'':=fun w'=>by
   have:=wider_ok (gr.get n) (v1,v2) w'
   rw [hu] at this
   exact this
  go_enter Tryd.func133,Tryd.ntmps133
  go_wp2_with (first | (first | (((with_reducible refine gL ?_);refine ql1 hS rfl rfl rfl ?_);refine ⟨_,zd,?_⟩;clear hS;(try clear w');intro a' hp;(try simp only [fr] at hp);subst hp;intro w' hS;(try simp only [sE] at hS)) | (((with_reducible refine gB ?_);refine qbox hS rfl rfl rfl ?_;refine ⟨_,za,?_⟩);clear hS;(try clear w');intro _;intro a' hp;(try simp only [fr] at hp);subst hp;intro w' hS)) | (go_at_call 125;refine (has_ok gr.has n (by omega) (by omega) _).mono ?_;rw [hb];rintro _ w' ⟨rfl,rfl⟩))
  (refine wp_region_quiet_tail 12 (by kernel_rfl) (by kernel_rfl) (St.drew1 hS) ?_;simp only [List.take_succ_cons,List.take_zero,List.drop_succ_cons,List.drop_zero];clear hS;(repeat ((go_big_quiet_want;(first | ((with_reducible refine gqM ?_);refine quiet_mv rfl rfl ?_;intro a' hp;(try simp only [fr] at hp);subst hp) | ((with_reducible refine gqL ?_);(first | refine quiet_l1 rfl rfl ?_ | refine quiet_ln rfl rfl ?_);refine ⟨_,zd,?_⟩;intro a' hp;(try simp only [fr] at hp);subst hp) | ((with_reducible refine gqV ?_);refine quiet_con ?_;refine ⟨_,_,by (intro _;go_simp;exact ⟨rfl,rfl⟩),?_⟩;refine ⟨_,by (intro w' hS;(exact hcon _)),?_⟩;intro a' hp;(try simp only [fr] at hp);subst hp) | (refine quiet_pure ?_;refine ⟨_,zp,?_⟩;intro a' hp;(try simp only [fr] at hp);subst hp));go_big_quiet_on)));refine wpQuiet_nil ?_;(try clear w');intro w' hS)
  go_wp2_with (((with_reducible refine gS ?_);refine qsall hS rfl rfl rfl ?_);refine ⟨_,zd,?_⟩;clear hS;(try clear w');intro a' hp;(try simp only [fr] at hp);subst hp;intro w' hS;(try simp only [sE] at hS))
  have hsp:=grC_setat hwf hn u
  have hwf':(Gr.mk (gr.at_.set n u) gr.has).WF:=⟨by simp [hwf.len],hwf.small⟩
  have hL':=grC_len hwf'
  have hh':=grC_has hwf'
  have hset:=grC_sethas hwf' (gr.has ||| 2 ^ n)
  have HB:bits .or .u64 (gr.has:Int) (IntKind.u64.wrap (2 ^ n))=((gr.has ||| 2 ^ n:Nat):Int):=by
   have:=wrap_shl 1 n
   have h2:(2:Nat) ^ n < 2 ^ 41:=Nat.pow_lt_pow_right (by omega) hn
   rw [Nat.one_mul,Nat.mod_eq_of_lt (by omega)] at this
   rw [show ((2:Int) ^ n)=(((1:Nat):Int) * 2 ^ n) by simp,this]
   exact bits_or _ _ (by omega) (by omega)
  have HA:gr.add n (v1,v2)=⟨gr.at_.set n u,gr.has ||| 2 ^ n⟩:=by simp [Gr.add,hb,hu]
  replace hset:=mkHid hset;replace HB:=mkHid HB;replace HA:=mkHid HA;replace hsp:=mkHid hsp
  (refine wp_region_quiet_tail 6 (by kernel_rfl) (by kernel_rfl) (St.drew1 hS) ?_;simp only [List.take_succ_cons,List.take_zero,List.drop_succ_cons,List.drop_zero];clear hS;(repeat ((go_big_quiet_want;(first | ((with_reducible refine gqM ?_);refine quiet_mv rfl rfl ?_;intro a' hp;(try simp only [fr] at hp);subst hp) | ((with_reducible refine gqL ?_);(refine quiet_ln rfl rfl ?_);refine ⟨_,zd,?_⟩;intro a' hp;(try simp only [fr] at hp);subst hp) | (refine quiet_pure ?_;refine ⟨_,zp,?_⟩;intro a' hp;(try simp only [fr] at hp);subst hp));go_big_quiet_on)));refine wpQuiet_nil ?_;(try clear w');intro w' hS)
  go_wp2_with ((with_reducible refine gS ?_);refine qsn hS rfl rfl rfl ?_;refine ⟨_,zd,?_⟩;clear hS;(try clear w');intro a' hp;(try simp only [fr] at hp);subst hp;intro w' hS;(try simp only [sE] at hS))
  rw [hsp.out] at hS
  (refine wp_region_quiet_tail 9 (by kernel_rfl) (by kernel_rfl) (St.drew1 hS) ?_;simp only [List.take_succ_cons,List.take_zero,List.drop_succ_cons,List.drop_zero];clear hS;(repeat ((go_big_quiet_want;(first | ((with_reducible refine gqM ?_);refine quiet_mv rfl rfl ?_;intro a' hp;(try simp only [fr] at hp);subst hp) | ((with_reducible refine gqL ?_);(refine quiet_l1 rfl rfl ?_);refine ⟨_,zd,?_⟩;intro a' hp;(try simp only [fr] at hp);subst hp) | (refine quiet_pure ?_;refine ⟨_,zp,?_⟩;intro a' hp;(try simp only [fr] at hp);subst hp));go_big_quiet_on)));refine wpQuiet_nil ?_;(try clear w');intro w' hS)
  go_wp2_with ((((with_reducible refine gS ?_);refine qs1 hS rfl rfl rfl ?_);refine ⟨_,zd,?_⟩;clear hS;(try clear w');intro a' hp;(try simp only [fr] at hp);subst hp;intro w' hS;(try simp only [sE] at hS));try (simp only [HB.out,hset.out] at hS))
  ((try simp only [Exit.inBlock,Exit.then]);(try refine bodyPost_norm ?_);refine ret_by ⟨_,by exact results0  (by kernel_rfl),?_⟩ rfl)
  exact ⟨rfl,hS.toKpBut,by rw [HA.out];exact hS.at (j:=1) rfl⟩
end Go.Proofs.YtjjmefieegcddaaDoor
