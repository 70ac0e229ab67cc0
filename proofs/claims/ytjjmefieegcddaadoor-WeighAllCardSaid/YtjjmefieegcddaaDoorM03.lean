/- A part of the proof: P1. -/
import Derived.Test.YtjjmefieegcddaaDoorProg
import Derived.Test.YtjjmefieegcddaaDoorM01
import Derived.Test.YtjjmefieegcddaaDoorM02
set_option linter.unusedVariables false
set_option linter.unusedSimpArgs false
set_option maxHeartbeats 8000000
namespace Go.Proofs.YtjjmefieegcddaaDoor
open Go Go.Tm Go.Extern
variable {f:Nat} {fn:Func}
theorem ZH:(Tryd.prog.funcs[129]?).map Extern.find=some ((ReflectliteValue.rows[0]?).map (·.2)):=by kernel_rfl
theorem ZJ:(Tryd.prog.funcs[130]?).map Extern.find=some ((ReflectliteValue.rows[3]?).map (·.2)):=by kernel_rfl
theorem YM:(Tryd.prog.funcs[131]?).map Extern.find=some ((ReflectliteValue.rows[5]?).map (·.2)):=by kernel_rfl
theorem Y0:(Tryd.prog.funcs[134]?).map Extern.find=some ((ReflectliteType.rows[0]?).map (·.2)):=by kernel_rfl
theorem YS:(Tryd.prog.funcs[135]?).map Extern.find=some ((ReflectliteValue.rows[7]?).map (·.2)):=by kernel_rfl
theorem Y8:(Tryd.prog.funcs[136]?).map Extern.find=some ((ReflectliteValue.rows[8]?).map (·.2)):=by kernel_rfl
theorem YO:(Tryd.prog.funcs[137]?).map Extern.find=some ((RuntimeError.rows[4]?).map (·.2)):=by kernel_rfl
theorem YI:(Tryd.prog.funcs[138]?).map Extern.find=some ((RuntimeError.rows[11]?).map (·.2)):=by kernel_rfl
theorem ZE:(Tryd.prog.funcs[139]?).map Extern.find=some ((RuntimeError.rows[0]?).map (·.2)):=by kernel_rfl
theorem Ze:(Tryd.prog.funcs[140]?).map Extern.find=some ((RuntimeError.rows[8]?).map (·.2)):=by kernel_rfl
theorem Zx:(Tryd.prog.funcs[141]?).map Extern.find=some ((RuntimeError.rows[1]?).map (·.2)):=by kernel_rfl
theorem ZM:(Tryd.prog.funcs[142]?).map Extern.find=some ((RuntimeError.rows[9]?).map (·.2)):=by kernel_rfl
theorem ZI:(Tryd.prog.funcs[143]?).map Extern.find=some ((RuntimeError.rows[2]?).map (·.2)):=by kernel_rfl
theorem Zw:(Tryd.prog.funcs[144]?).map Extern.find=some ((RuntimeError.rows[10]?).map (·.2)):=by kernel_rfl
theorem ZX:(Tryd.prog.funcs[145]?).map Extern.find=some ((RuntimeError.rows[5]?).map (·.2)):=by kernel_rfl
theorem Y7:(Tryd.prog.funcs[146]?).map Extern.find=some ((RuntimeError.rows[12]?).map (·.2)):=by kernel_rfl
theorem YR:(Tryd.prog.funcs[147]?).map Extern.find=some ((RuntimeError.rows[6]?).map (·.2)):=by kernel_rfl
theorem YL:(Tryd.prog.funcs[148]?).map Extern.find=some ((RuntimeError.rows[13]?).map (·.2)):=by kernel_rfl
theorem aac:(Tryd.prog.funcs[151]?).map Extern.find=some ((ReflectliteType.rows[9]?).map (·.2)):=by kernel_rfl
theorem aae:(Tryd.prog.funcs[152]?).map Extern.find=some ((RuntimeError.rows[7]?).map (·.2)):=by kernel_rfl
theorem YH:(Tryd.prog.funcs[153]?).map Extern.find=some ((RuntimeError.rows[14]?).map (·.2)):=by kernel_rfl
theorem YK:(Tryd.prog.funcs[157]?).map Extern.find=some ((ReflectliteValue.rows[2]?).map (·.2)):=by kernel_rfl
theorem Y3:(Tryd.prog.funcs[158]?).map Extern.find=some ((ReflectliteType.rows[11]?).map (·.2)):=by kernel_rfl
theorem ZU:(Tryd.prog.funcs[159]?).map Extern.find=some ((ReflectliteType.rows[10]?).map (·.2)):=by kernel_rfl
theorem ZL:(Tryd.prog.funcs[160]?).map Extern.find=some ((ReflectliteType.rows[7]?).map (·.2)):=by kernel_rfl
theorem YZ:(Tryd.prog.funcs[161]?).map Extern.find=some ((ReflectliteType.rows[2]?).map (·.2)):=by kernel_rfl
theorem ZV:(Tryd.prog.funcs[162]?).map Extern.find=some ((ReflectliteType.rows[1]?).map (·.2)):=by kernel_rfl
theorem Zk:(Tryd.prog.funcs[163]?).map Extern.find=some ((ReflectliteType.rows[6]?).map (·.2)):=by kernel_rfl
theorem aad:(Tryd.prog.funcs[164]?).map Extern.find=some ((ReflectliteType.rows[4]?).map (·.2)):=by kernel_rfl
theorem Y5:(Tryd.prog.funcs[165]?).map Extern.find=some ((ReflectliteType.rows[5]?).map (·.2)):=by kernel_rfl
theorem Zd:(Tryd.prog.funcs[166]?).map Extern.find=some ((ReflectliteType.rows[3]?).map (·.2)):=by kernel_rfl
theorem Zf:(Tryd.prog.funcs[167]?).map Extern.find=some ((ReflectliteType.rows[8]?).map (·.2)):=by kernel_rfl
theorem ZQ:(Tryd.prog.funcs[169]?).map Extern.find=some ((ReflectliteValue.rows[9]?).map (·.2)):=by kernel_rfl
theorem Za:(Tryd.prog.funcs[149]?).map Extern.find=some none:=by kernel_rfl
theorem YG:(Tryd.prog.funcs[150]?).map Extern.find=some none:=by kernel_rfl
theorem ZW:(Tryd.prog.funcs[154]?).map Extern.find=some none:=by kernel_rfl
theorem Zh:(Tryd.prog.funcs[155]?).map Extern.find=some none:=by kernel_rfl
theorem ZP:(Tryd.prog.funcs[156]?).map Extern.find=some none:=by kernel_rfl
theorem Zm:(Tryd.prog.funcs[168]?).map Extern.find=some none:=by kernel_rfl
theorem YU:(Tryd.prog.funcs[170]?).map Extern.find=some none:=by kernel_rfl
theorem ZT:(Tryd.prog.funcs[171]?).map Extern.find=some none:=by kernel_rfl
theorem YT:(Tryd.prog.funcs[172]?).map Extern.find=some none:=by kernel_rfl
theorem YX:(Tryd.prog.funcs[173]?).map Extern.find=some none:=by kernel_rfl
theorem ext1:(Tryd.prog.funcs[1]?).map Extern.find=some none:=by kernel_rfl
theorem abz:(Tryd.prog.funcs[0]?).map Extern.find=some none:=by kernel_rfl
def bare:List Nat:=[0,1,129,130,131,134,135,136,137,138,139,140,141,142,143,144,145,146,147,148,149,150,151,152,153,154,155,156,157,158,159,160,161,162,163,164,165,166,167,168,169,170,171,172,173]
theorem Oi:Tryd.prog.funcs.size=175:=by kernel_rfl
theorem Wx:(Tryd.prog.funcs.toList.all fun fn=>!(fn.name == "runtime.NumGoroutine"))=true:=by kernel_rfl
theorem TN:(Tryd.prog.funcs.toList.all fun fn=>(Extern.findNext fn).isNone)=true:=by kernel_rfl
theorem Ya:((List.range 175).all fun i=>((Tryd.prog.funcs[i]?).map (·.body.isSome)).getD true || bare.contains i)=true:=by kernel_rfl
theorem Qj:(Tryd.prog.funcs.toList.all fun fn=>(fn.body.map (bY true)).getD true)=true:=by kernel_rfl
theorem bU {rows:List (String × (Array Value->Sem Value))} {k:Nat} (hf:Tryd.prog.funcs[f]? = some fn) (h:(Tryd.prog.funcs[f]?).map Extern.find=some ((rows[k]?).map (·.2))) (hc:∀ x∈rows,∀ a,Tm.ak (x.2 a))
 (e:Array Value->Sem Value) (he:Extern.find fn=some e) (args:Array Value):Tm.ak (e args):=by
 rw[hf]at h;simp only[Option.map_some,Option.some.injEq]at h;rw[he]at h;cases hk:rows[k]? with
 |none=>rw[hk]at h;cases h
 |some x =>
  rw[hk]at h;simp only[Option.map_some,Option.some.injEq]at h;subst h;exact hc x (List.mem_of_getElem? hk) args
theorem nR (hf:Tryd.prog.funcs[f]? = some fn) (h:(Tryd.prog.funcs[f]?).map Extern.find=some none)
 (e:Array Value->Sem Value) (he:Extern.find fn=some e) (args:Array Value):Tm.ak (e args):=by
 rw[hf]at h;simp only[Option.map_some,Option.some.injEq]at h;rw[he]at h;cases h
theorem Ur (f:FuncId):U0 Tryd.prog f:=by
  intro fn hf;have hmem:fn∈Tryd.prog.funcs.toList:=by
   rw[Array.mem_toList_iff];exact Array.mem_of_getElem? hf
  refine⟨?_,fun hb=>⟨List.all_eq_true.1 TN fn hmem,fun e he args=>?_⟩⟩
  ·have:=List.all_eq_true.1 Wx fn hmem;simpa using this
  ·have hlt:f < 175:=by rw [<- Oi];exact (Array.getElem?_eq_some_iff.1 hf).1
   have hbare:=List.all_eq_true.1 Ya f (List.mem_range.2 hlt);rw[hf]at hbare;have hs:fn.body.isSome=false:=by
    cases hx:fn.body with
    |none=>rfl
    |some c=>rw[hx]at hb;cases hb
   simp only[Option.map_some,Option.getD_some,hs,Bool.false_or]at hbare;have hin:f∈bare:=List.contains_iff_mem.1 hbare;simp only[bare,List.mem_cons,List.not_mem_nil,or_false]at hin;rcases hin with rfl|rfl|rfl|rfl|rfl|rfl|rfl|rfl|rfl|rfl|rfl|rfl|rfl|rfl|rfl|rfl|rfl|rfl|rfl|rfl|rfl|rfl|rfl|rfl|rfl|rfl|rfl|rfl|rfl|rfl|rfl|rfl|rfl|rfl|rfl|rfl|rfl|rfl|rfl|rfl|rfl|rfl|rfl|rfl|rfl
   ·exact nR hf abz e he args
   ·exact nR hf ext1 e he args
   ·exact bU hf ZH mP e he args
   ·exact bU hf ZJ mP e he args
   ·exact bU hf YM mP e he args
   ·exact bU hf Y0 gJ e he args
   ·exact bU hf YS mP e he args
   ·exact bU hf Y8 mP e he args
   ·exact bU hf YO fE e he args
   ·exact bU hf YI fE e he args
   ·exact bU hf ZE fE e he args
   ·exact bU hf Ze fE e he args
   ·exact bU hf Zx fE e he args
   ·exact bU hf ZM fE e he args
   ·exact bU hf ZI fE e he args
   ·exact bU hf Zw fE e he args
   ·exact bU hf ZX fE e he args
   ·exact bU hf Y7 fE e he args
   ·exact bU hf YR fE e he args
   ·exact bU hf YL fE e he args
   ·exact nR hf Za e he args
   ·exact nR hf YG e he args
   ·exact bU hf aac gJ e he args
   ·exact bU hf aae fE e he args
   ·exact bU hf YH fE e he args
   ·exact nR hf ZW e he args
   ·exact nR hf Zh e he args
   ·exact nR hf ZP e he args
   ·exact bU hf YK mP e he args
   ·exact bU hf Y3 gJ e he args
   ·exact bU hf ZU gJ e he args
   ·exact bU hf ZL gJ e he args
   ·exact bU hf YZ gJ e he args
   ·exact bU hf ZV gJ e he args
   ·exact bU hf Zk gJ e he args
   ·exact bU hf aad gJ e he args
   ·exact bU hf Y5 gJ e he args
   ·exact bU hf Zd gJ e he args
   ·exact bU hf Zf gJ e he args
   ·exact nR hf Zm e he args
   ·exact bU hf ZQ mP e he args
   ·exact nR hf YU e he args
   ·exact nR hf ZT e he args
   ·exact nR hf YT e he args
   ·exact nR hf YX e he args
theorem lT:ED Tryd.prog fun _=>True:=by
 intro f _;constructor
 ·intro fn hf;obtain⟨h1,h2⟩:=Ur f fn hf;exact⟨h1,fun hb=>⟨(h2 hb).1,fun e he args=>JU (h:=(h2 hb).2 e he args)⟩⟩
 ·intro fn c hf hc;have hmem:fn∈Tryd.prog.funcs.toList:=by
   rw[Array.mem_toList_iff];exact Array.mem_of_getElem? hf
  have:=List.all_eq_true.1 Qj fn hmem;rw[hc]at this;exact this
end Go.Proofs.YtjjmefieegcddaaDoor
