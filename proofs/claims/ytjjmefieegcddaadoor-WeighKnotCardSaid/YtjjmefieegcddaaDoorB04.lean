/- A part of the proof: P1. -/
import Derived.Test.YtjjmefieegcddaaDoorProg
import Derived.Test.YtjjmefieegcddaaDoorB01
import Derived.Test.YtjjmefieegcddaaDoorB03
set_option linter.unusedVariables false
set_option linter.unusedSimpArgs false
namespace Go.Proofs.YtjjmefieegcddaaDoor
open Go Go.Tm Go.Extern
theorem ext129:(Tryd.prog.funcs[129]?).map Extern.find=some ((ReflectliteValue.rows[0]?).map (·.2)):=by kernel_rfl
theorem ext130:(Tryd.prog.funcs[130]?).map Extern.find=some ((ReflectliteValue.rows[3]?).map (·.2)):=by kernel_rfl
theorem ext131:(Tryd.prog.funcs[131]?).map Extern.find=some ((ReflectliteValue.rows[5]?).map (·.2)):=by kernel_rfl
theorem ext134:(Tryd.prog.funcs[134]?).map Extern.find=some ((ReflectliteType.rows[0]?).map (·.2)):=by kernel_rfl
theorem ext135:(Tryd.prog.funcs[135]?).map Extern.find=some ((ReflectliteValue.rows[7]?).map (·.2)):=by kernel_rfl
theorem ext136:(Tryd.prog.funcs[136]?).map Extern.find=some ((ReflectliteValue.rows[8]?).map (·.2)):=by kernel_rfl
theorem ext137:(Tryd.prog.funcs[137]?).map Extern.find=some ((RuntimeError.rows[4]?).map (·.2)):=by kernel_rfl
theorem ext138:(Tryd.prog.funcs[138]?).map Extern.find=some ((RuntimeError.rows[11]?).map (·.2)):=by kernel_rfl
theorem ext139:(Tryd.prog.funcs[139]?).map Extern.find=some ((RuntimeError.rows[0]?).map (·.2)):=by kernel_rfl
theorem ext140:(Tryd.prog.funcs[140]?).map Extern.find=some ((RuntimeError.rows[8]?).map (·.2)):=by kernel_rfl
theorem ext141:(Tryd.prog.funcs[141]?).map Extern.find=some ((RuntimeError.rows[1]?).map (·.2)):=by kernel_rfl
theorem ext142:(Tryd.prog.funcs[142]?).map Extern.find=some ((RuntimeError.rows[9]?).map (·.2)):=by kernel_rfl
theorem ext143:(Tryd.prog.funcs[143]?).map Extern.find=some ((RuntimeError.rows[2]?).map (·.2)):=by kernel_rfl
theorem ext144:(Tryd.prog.funcs[144]?).map Extern.find=some ((RuntimeError.rows[10]?).map (·.2)):=by kernel_rfl
theorem ext145:(Tryd.prog.funcs[145]?).map Extern.find=some ((RuntimeError.rows[5]?).map (·.2)):=by kernel_rfl
theorem ext146:(Tryd.prog.funcs[146]?).map Extern.find=some ((RuntimeError.rows[12]?).map (·.2)):=by kernel_rfl
theorem ext147:(Tryd.prog.funcs[147]?).map Extern.find=some ((RuntimeError.rows[6]?).map (·.2)):=by kernel_rfl
theorem ext148:(Tryd.prog.funcs[148]?).map Extern.find=some ((RuntimeError.rows[13]?).map (·.2)):=by kernel_rfl
theorem ext151:(Tryd.prog.funcs[151]?).map Extern.find=some ((ReflectliteType.rows[9]?).map (·.2)):=by kernel_rfl
theorem ext152:(Tryd.prog.funcs[152]?).map Extern.find=some ((RuntimeError.rows[7]?).map (·.2)):=by kernel_rfl
theorem ext153:(Tryd.prog.funcs[153]?).map Extern.find=some ((RuntimeError.rows[14]?).map (·.2)):=by kernel_rfl
theorem ext157:(Tryd.prog.funcs[157]?).map Extern.find=some ((ReflectliteValue.rows[2]?).map (·.2)):=by kernel_rfl
theorem ext158:(Tryd.prog.funcs[158]?).map Extern.find=some ((ReflectliteType.rows[11]?).map (·.2)):=by kernel_rfl
theorem ext159:(Tryd.prog.funcs[159]?).map Extern.find=some ((ReflectliteType.rows[10]?).map (·.2)):=by kernel_rfl
theorem ext160:(Tryd.prog.funcs[160]?).map Extern.find=some ((ReflectliteType.rows[7]?).map (·.2)):=by kernel_rfl
theorem ext161:(Tryd.prog.funcs[161]?).map Extern.find=some ((ReflectliteType.rows[2]?).map (·.2)):=by kernel_rfl
theorem ext162:(Tryd.prog.funcs[162]?).map Extern.find=some ((ReflectliteType.rows[1]?).map (·.2)):=by kernel_rfl
theorem ext163:(Tryd.prog.funcs[163]?).map Extern.find=some ((ReflectliteType.rows[6]?).map (·.2)):=by kernel_rfl
theorem ext164:(Tryd.prog.funcs[164]?).map Extern.find=some ((ReflectliteType.rows[4]?).map (·.2)):=by kernel_rfl
theorem ext165:(Tryd.prog.funcs[165]?).map Extern.find=some ((ReflectliteType.rows[5]?).map (·.2)):=by kernel_rfl
theorem ext166:(Tryd.prog.funcs[166]?).map Extern.find=some ((ReflectliteType.rows[3]?).map (·.2)):=by kernel_rfl
theorem ext167:(Tryd.prog.funcs[167]?).map Extern.find=some ((ReflectliteType.rows[8]?).map (·.2)):=by kernel_rfl
theorem ext169:(Tryd.prog.funcs[169]?).map Extern.find=some ((ReflectliteValue.rows[9]?).map (·.2)):=by kernel_rfl
theorem ext149:(Tryd.prog.funcs[149]?).map Extern.find=some none:=by kernel_rfl
theorem ext150:(Tryd.prog.funcs[150]?).map Extern.find=some none:=by kernel_rfl
theorem ext154:(Tryd.prog.funcs[154]?).map Extern.find=some none:=by kernel_rfl
theorem ext155:(Tryd.prog.funcs[155]?).map Extern.find=some none:=by kernel_rfl
theorem ext156:(Tryd.prog.funcs[156]?).map Extern.find=some none:=by kernel_rfl
theorem ext168:(Tryd.prog.funcs[168]?).map Extern.find=some none:=by kernel_rfl
theorem ext170:(Tryd.prog.funcs[170]?).map Extern.find=some none:=by kernel_rfl
theorem ext171:(Tryd.prog.funcs[171]?).map Extern.find=some none:=by kernel_rfl
theorem ext172:(Tryd.prog.funcs[172]?).map Extern.find=some none:=by kernel_rfl
theorem ext173:(Tryd.prog.funcs[173]?).map Extern.find=some none:=by kernel_rfl
theorem ext1:(Tryd.prog.funcs[1]?).map Extern.find=some none:=by kernel_rfl
theorem ext0:(Tryd.prog.funcs[0]?).map Extern.find=some none:=by kernel_rfl
def bare:List Nat:=[0,1,129,130,131,134,135,136,137,138,139,140,141,142,143,144,145,146,147,148,149,150,151,152,153,154,155,156,157,158,159,160,161,162,163,164,165,166,167,168,169,170,171,172,173]
theorem size_funcs:Tryd.prog.funcs.size=175:=by kernel_rfl
theorem names_ok:(Tryd.prog.funcs.toList.all fun fn=>!(fn.name == "runtime.NumGoroutine"))=true:=by kernel_rfl
theorem next_none:(Tryd.prog.funcs.toList.all fun fn=>(Extern.findNext fn).isNone)=true:=by kernel_rfl
theorem bare_ok:((List.range 175).all fun i=>((Tryd.prog.funcs[i]?).map (·.body.isSome)).getD true || bare.contains i)=true:=by kernel_rfl
theorem code_ok:(Tryd.prog.funcs.toList.all fun fn=>(fn.body.map (okCode true)).getD true)=true:=by kernel_rfl
theorem shy_ext {f:Nat} {fn:Func} {rows:List (String × (Array Value→Sem Value))} {k:Nat} (hf:Tryd.prog.funcs[f]? = some fn) (h:(Tryd.prog.funcs[f]?).map Extern.find=some ((rows[k]?).map (·.2))) (hc:∀ x∈rows,∀ a,Tm.Shyc (x.2 a))
  (e:Array Value→Sem Value) (he:Extern.find fn=some e) (args:Array Value):Tm.Shyc (e args):=by
 rw [hf] at h
 simp only [Option.map_some,Option.some.injEq] at h
 rw [he] at h
 cases hk:rows[k]? with
 | none=>rw [hk] at h;cases h
 | some x =>
  rw [hk] at h
  simp only [Option.map_some,Option.some.injEq] at h
  subst h
  exact hc x (List.mem_of_getElem? hk) args
theorem shy_no {f:Nat} {fn:Func} (hf:Tryd.prog.funcs[f]? = some fn) (h:(Tryd.prog.funcs[f]?).map Extern.find=some none)
  (e:Array Value→Sem Value) (he:Extern.find fn=some e) (args:Array Value):Tm.Shyc (e args):=by
 rw [hf] at h
 simp only [Option.map_some,Option.some.injEq] at h
 rw [he] at h
 cases h
theorem shyAll (f:FuncId):FnShy Tryd.prog f:=by
  intro fn hf
  have hmem:fn∈Tryd.prog.funcs.toList:=by
   rw [Array.mem_toList_iff]
   exact Array.mem_of_getElem? hf
  refine ⟨?_,fun hb=>⟨List.all_eq_true.1 next_none fn hmem,fun e he args=>?_⟩⟩
  ·have:=List.all_eq_true.1 names_ok fn hmem
   simpa using this
  ·have hlt:f < 175:=by rw [← size_funcs];exact (Array.getElem?_eq_some_iff.1 hf).1
   have hbare:=List.all_eq_true.1 bare_ok f (List.mem_range.2 hlt)
   rw [hf] at hbare
   have hs:fn.body.isSome=false:=by
    cases hx:fn.body with
    | none=>rfl
    | some c=>rw [hx] at hb;cases hb
   simp only [Option.map_some,Option.getD_some,hs,Bool.false_or] at hbare
   have hin:f∈bare:=List.contains_iff_mem.1 hbare
   simp only [bare,List.mem_cons,List.not_mem_nil,or_false] at hin
   rcases hin with rfl | rfl | rfl | rfl | rfl | rfl | rfl | rfl | rfl | rfl | rfl | rfl | rfl | rfl | rfl | rfl | rfl | rfl | rfl | rfl | rfl | rfl | rfl | rfl | rfl | rfl | rfl | rfl | rfl | rfl | rfl | rfl | rfl | rfl | rfl | rfl | rfl | rfl | rfl | rfl | rfl | rfl | rfl | rfl | rfl
   ·exact shy_no hf ext0 e he args
   ·exact shy_no hf ext1 e he args
   ·exact shy_ext hf ext129 shy_rowsV e he args
   ·exact shy_ext hf ext130 shy_rowsV e he args
   ·exact shy_ext hf ext131 shy_rowsV e he args
   ·exact shy_ext hf ext134 shy_rowsT e he args
   ·exact shy_ext hf ext135 shy_rowsV e he args
   ·exact shy_ext hf ext136 shy_rowsV e he args
   ·exact shy_ext hf ext137 shy_rowsE e he args
   ·exact shy_ext hf ext138 shy_rowsE e he args
   ·exact shy_ext hf ext139 shy_rowsE e he args
   ·exact shy_ext hf ext140 shy_rowsE e he args
   ·exact shy_ext hf ext141 shy_rowsE e he args
   ·exact shy_ext hf ext142 shy_rowsE e he args
   ·exact shy_ext hf ext143 shy_rowsE e he args
   ·exact shy_ext hf ext144 shy_rowsE e he args
   ·exact shy_ext hf ext145 shy_rowsE e he args
   ·exact shy_ext hf ext146 shy_rowsE e he args
   ·exact shy_ext hf ext147 shy_rowsE e he args
   ·exact shy_ext hf ext148 shy_rowsE e he args
   ·exact shy_no hf ext149 e he args
   ·exact shy_no hf ext150 e he args
   ·exact shy_ext hf ext151 shy_rowsT e he args
   ·exact shy_ext hf ext152 shy_rowsE e he args
   ·exact shy_ext hf ext153 shy_rowsE e he args
   ·exact shy_no hf ext154 e he args
   ·exact shy_no hf ext155 e he args
   ·exact shy_no hf ext156 e he args
   ·exact shy_ext hf ext157 shy_rowsV e he args
   ·exact shy_ext hf ext158 shy_rowsT e he args
   ·exact shy_ext hf ext159 shy_rowsT e he args
   ·exact shy_ext hf ext160 shy_rowsT e he args
   ·exact shy_ext hf ext161 shy_rowsT e he args
   ·exact shy_ext hf ext162 shy_rowsT e he args
   ·exact shy_ext hf ext163 shy_rowsT e he args
   ·exact shy_ext hf ext164 shy_rowsT e he args
   ·exact shy_ext hf ext165 shy_rowsT e he args
   ·exact shy_ext hf ext166 shy_rowsT e he args
   ·exact shy_ext hf ext167 shy_rowsT e he args
   ·exact shy_no hf ext168 e he args
   ·exact shy_ext hf ext169 shy_rowsV e he args
   ·exact shy_no hf ext170 e he args
   ·exact shy_no hf ext171 e he args
   ·exact shy_no hf ext172 e he args
   ·exact shy_no hf ext173 e he args
theorem sokAll:Sok Tryd.prog fun _=>True:=by
 intro f _
 constructor
 ·intro fn hf
  obtain ⟨h1,h2⟩:=shyAll f fn hf
  exact ⟨h1,fun hb=>⟨(h2 hb).1,fun e he args=>calm_of_shy (h:=(h2 hb).2 e he args)⟩⟩
 ·intro fn c hf hc
  have hmem:fn∈Tryd.prog.funcs.toList:=by
   rw [Array.mem_toList_iff]
   exact Array.mem_of_getElem? hf
  have:=List.all_eq_true.1 code_ok fn hmem
  rw [hc] at this
  exact this
end Go.Proofs.YtjjmefieegcddaaDoor
