/- DERIVED: THE SHELF's CONTRACTS AT THIS DUMP, IN PLAIN WORDS (tools/lay-plain.mjs out of 'TryzShelf.lean', which tools/lay-shelf.mjs wrote): THE SAME DECLARATIONS UNDER THE SAME NAMES: 'import', 'namespace', 'open', 'def', 'theorem' AND NOTHING ELSE: no command of the shelf's: FOR A HAND-IN. Each laying: the table of numbers ('.._ren') and one theorem, a field a fact of the dump's own or the kernel's comparison; each contract: ONE APPLICATION. -/
import Derived.Shelf.Small.Bits
import Derived.Shelf.Small.Wraps
import Derived.Shelf.Strconv.Itoa0
import Derived.Shelf.Sort.Plain
import Derived.Shelf.Slices.Turned
import Derived.Shelf.Slices.Equal
import Derived.Ground.Names2Prog
import Derived.Shelf.Slices.Clone
import Derived.Shelf.Slices.CompactS
import Derived.Shelf.Slices.SearchI
import Derived.Shelf.Slices.Cells
import Derived.Shelf.Slices.In.SortNone
import Derived.Shelf.Slices.Empties2
import Derived.Ground.SlgnProg
import Derived.Shelf.SlicesE.Equal
import Derived.Shelf.SlicesE.Compact
import Derived.Shelf.SlicesE.Clone
import Derived.Ground.SlgfProg
import Derived.Shelf.SlicesE.IndexFunc
import Derived.Shelf.SlicesE.DeleteFunc
import Derived.Shelf.SlLaysZ
import Derived.Shelf.SlGeneric
import Derived.Ground.GgzProg
import Derived.Test.YtggbjdmpjidhgaaGreatDoorProg
set_option linter.all false
set_option maxHeartbeats 1500000
set_option maxRecDepth 100000
namespace Go.Proofs
open Go.Shelf
variable{α:Type}
def Tryz.lays190_ren:Go.Shelf.Ren:=⟨fun | 190=>205 | 125=>232 | 258=>231 | 128=>233 | 129=>246 | 302=>237 | 303=>238 | 304=>239 | 305=>240 | 306=>241 | 307=>242 | 308=>243 | 309=>244 | 310=>245 | 333=>247 | 329=>248 | 330=>249 | 334=>250 | 335=>251 | 336=>252 | 344=>253 | n=>n,fun | 31=>23 | 9=>9 | 3=>3 | 46=>246 | 0=>0 | 51=>49 | 53=>65 | 4=>4 | 183=>279 | 182=>278 | 131=>156 | 5=>5 | 218=>286 | 222=>290 | 228=>292 | 229=>293 | n=>n,fun | n=>n⟩
theorem Tryz.lays190:Go.Proofs.Lays.n190 Tryz.prog Tryz.lays190_ren:={
 mixed:=by kernel_rfl
 f125:=Tryz.func232.trans (congrArg some (by kernel_rfl))
 f128:=Tryz.func233.trans (congrArg some (by kernel_rfl))
 f129:=Tryz.func246.trans (congrArg some (by kernel_rfl))
 f190:=Tryz.func205.trans (congrArg some (by kernel_rfl))
 f258:=Tryz.func231.trans (congrArg some (by kernel_rfl))
 f302:=Tryz.func237.trans (congrArg some (by kernel_rfl))
 f303:=Tryz.func238.trans (congrArg some (by kernel_rfl))
 f304:=Tryz.func239.trans (congrArg some (by kernel_rfl))
 f305:=Tryz.func240.trans (congrArg some (by kernel_rfl))
 f306:=Tryz.func241.trans (congrArg some (by kernel_rfl))
 f307:=Tryz.func242.trans (congrArg some (by kernel_rfl))
 f308:=Tryz.func243.trans (congrArg some (by kernel_rfl))
 f309:=Tryz.func244.trans (congrArg some (by kernel_rfl))
 f310:=Tryz.func245.trans (congrArg some (by kernel_rfl))
 f329:=Tryz.func248.trans (congrArg some (by kernel_rfl))
 f330:=Tryz.func249.trans (congrArg some (by kernel_rfl))
 f333:=Tryz.func247.trans (congrArg some (by kernel_rfl))
 f334:=Tryz.func250.trans (congrArg some (by kernel_rfl))
 f335:=Tryz.func251.trans (congrArg some (by kernel_rfl))
 f336:=Tryz.func252.trans (congrArg some (by kernel_rfl))
 f344:=Tryz.func253.trans (congrArg some (by kernel_rfl))
 t0:=Tryz.underlying0
 a0:=Tryz.isAgg0
 z0:=Tryz.sizeOf0
 v0:=Tryz.zeroValue0
 t3:=Tryz.underlying3
 a3:=Tryz.isAgg3
 z3:=Tryz.sizeOf3
 v3:=Tryz.zeroValue3
 t4:=Tryz.underlying4
 a4:=Tryz.isAgg4
 z4:=Tryz.sizeOf4
 v4:=Tryz.zeroValue4
 t5:=Tryz.underlying5
 a5:=Tryz.isAgg5
 z5:=Tryz.sizeOf5
 v5:=Tryz.zeroValue5
 t9:=Tryz.underlying9
 a9:=Tryz.isAgg9
 z9:=Tryz.sizeOf9
 v9:=Tryz.zeroValue9
 t31:=Tryz.underlying23
 a31:=Tryz.isAgg23
 z31:=Tryz.sizeOf23
 v31:=Tryz.zeroValue23
 t46:=Tryz.underlying246
 a46:=Tryz.isAgg246
 z46:=Tryz.sizeOf246
 v46:=Tryz.zeroValue246
 t51:=Tryz.underlying49
 a51:=Tryz.isAgg49
 z51:=Tryz.sizeOf49
 v51:=Tryz.zeroValue49
 t53:=Tryz.underlying65
 a53:=Tryz.isAgg65
 z53:=Tryz.sizeOf65
 v53:=Tryz.zeroValue65
 t131:=Tryz.underlying156
 a131:=Tryz.isAgg156
 z131:=Tryz.sizeOf156
 v131:=Tryz.zeroValue156
 t182:=Tryz.underlying278
 a182:=Tryz.isAgg278
 z182:=Tryz.sizeOf278
 v182:=Tryz.zeroValue278
 t183:=Tryz.underlying279
 a183:=Tryz.isAgg279
 z183:=Tryz.sizeOf279
 v183:=Tryz.zeroValue279
 t218:=Tryz.underlying286
 a218:=Tryz.isAgg286
 z218:=Tryz.sizeOf286
 v218:=Tryz.zeroValue286
 t222:=Tryz.underlying290
 a222:=Tryz.isAgg290
 z222:=Tryz.sizeOf290
 v222:=Tryz.zeroValue290
 t228:=Tryz.underlying292
 a228:=Tryz.isAgg292
 z228:=Tryz.sizeOf292
 v228:=Tryz.zeroValue292
 t229:=Tryz.underlying293
 a229:=Tryz.isAgg293
 z229:=Tryz.sizeOf293
 v229:=Tryz.zeroValue293 }
open Go.Sort Go.RowKit in
theorem Tryz.slices_Sort_string(a b cap:Nat)(ss:List (List UInt8))(w:World)(c:Holds encStr w a b ss.toArray)(d:a<w.heap.size)(f:ss.length<4611686018427387904):
 Calls prog 205 #[.slice (some ⟨a,b,none⟩) ss.length cap] w λe w' =>
  e = .returned (.tuple #[])/\∃n os,w'=grow (putRow encStr (Sort.ahead w n) a b (ss.mergeSort λx y=>decide (x<=y)).toArray) os:=Any.slices_Sort_string Tryz.lays190 a b cap ss w c d f
def Tryz.laysNm215_ren:Go.Shelf.Ren:=⟨fun | 15=>70 | n=>n,fun | 22=>27 | 3=>3 | 4=>4 | n=>n,fun | n=>n⟩
theorem Tryz.laysNm215:Go.Proofs.Lays2.n15 Tryz.prog Tryz.laysNm215_ren:={
 mixed:=by kernel_rfl
 f15:=Tryz.func70.trans (congrArg some (by kernel_rfl))
 t3:=Tryz.underlying3
 a3:=Tryz.isAgg3
 z3:=Tryz.sizeOf3
 v3:=Tryz.zeroValue3
 t4:=Tryz.underlying4
 a4:=Tryz.isAgg4
 z4:=Tryz.sizeOf4
 v4:=Tryz.zeroValue4
 t22:=Tryz.underlying27
 a22:=Tryz.isAgg27
 z22:=Tryz.sizeOf27
 v22:=Tryz.zeroValue27
 i3:=by kernel_rfl }
open Go.RowKit Go.Lib in
theorem Tryz.slices_Clone_int(b d n c:Nat)(a:List Int)(w:World)(k:n<=a.length)(g:n*8<=140737488355328)(h:∀j,j<a.length->w.cell? ⟨b,d+j,none⟩=some (.int .i64 (a.getD j 0))):
 Calls prog 70 #[.slice (some ⟨b,d,none⟩) n c] w λe w'=>∃f,e = .returned f/\w'.ownsRow w.heap.size 3 1 f n ((a.take n).map (Value.int .i64))/\f ≠ .slice none 0 0/\Below w.heap.size w w':=Any.slices_Clone_int Tryz.laysNm215 b d n c a w k g h
open Go.RowKit Go.Lib in
theorem Tryz.slices_Clone_int_nil(n c:Nat)(w:World):
 Calls prog 70 #[.slice none n c] w λe w'=>e = .returned (.slice none 0 0)/\w'=w:=Any.slices_Clone_int_nil Tryz.laysNm215 n c w
def Tryz.laysNm216_ren:Go.Shelf.Ren:=⟨fun | 16=>97 | n=>n,fun | 24=>23 | 9=>9 | 4=>4 | n=>n,fun | n=>n⟩
theorem Tryz.laysNm216:Go.Proofs.Lays2.n16 Tryz.prog Tryz.laysNm216_ren:={
 mixed:=by kernel_rfl
 f16:=Tryz.func97.trans (congrArg some (by kernel_rfl))
 t4:=Tryz.underlying4
 a4:=Tryz.isAgg4
 z4:=Tryz.sizeOf4
 v4:=Tryz.zeroValue4
 t9:=Tryz.underlying9
 a9:=Tryz.isAgg9
 z9:=Tryz.sizeOf9
 v9:=Tryz.zeroValue9
 t24:=Tryz.underlying23
 a24:=Tryz.isAgg23
 z24:=Tryz.sizeOf23
 v24:=Tryz.zeroValue23
 i9:=by kernel_rfl }
open Go.RowKit Go.Lib in
theorem Tryz.slices_Clone_string(b d n c:Nat)(a:List ByteArray)(w:World)(k:n<=a.length)(g:n*16<=140737488355328)(h:∀j,j<a.length->w.cell? ⟨b,d+j,none⟩=some (.string (a.getD j ByteArray.empty))):
 Calls prog 97 #[.slice (some ⟨b,d,none⟩) n c] w λe w'=>∃f,e = .returned f/\w'.ownsRow w.heap.size 9 1 f n ((a.take n).map (Value.string))/\f ≠ .slice none 0 0/\Below w.heap.size w w':=Any.slices_Clone_string Tryz.laysNm216 b d n c a w k g h
open Go.RowKit Go.Lib in
theorem Tryz.slices_Clone_string_nil(n c:Nat)(w:World):
 Calls prog 97 #[.slice none n c] w λe w'=>e = .returned (.slice none 0 0)/\w'=w:=Any.slices_Clone_string_nil Tryz.laysNm216 n c w
open Go.RowKit Go.Lib in
theorem Tryz.slices_Clone_int_zero(a:Addr)(c:Nat)(w:World):
 Calls prog 70 #[.slice (some a) 0 c] w λe w'=>∃b,e = .returned b/\w'.ownsRow w.heap.size 3 1 b 0 []/\b ≠ .slice none 0 0/\Below w.heap.size w w':=Any.slices_Clone_int_zero Tryz.laysNm215 a c w
open Go.RowKit Go.Lib in
theorem Tryz.slices_Clone_string_zero(a:Addr)(c:Nat)(w:World):
 Calls prog 97 #[.slice (some a) 0 c] w λe w'=>∃b,e = .returned b/\w'.ownsRow w.heap.size 9 1 b 0 []/\b ≠ .slice none 0 0/\Below w.heap.size w w':=Any.slices_Clone_string_zero Tryz.laysNm216 a c w
def Tryz.lays194_ren:Go.Shelf.Ren:=⟨fun | 194=>163 | n=>n,fun | 31=>23 | 9=>9 | 3=>3 | 4=>4 | 0=>0 | n=>n,fun | n=>n⟩
theorem Tryz.lays194:Go.Proofs.Lays.n194 Tryz.prog Tryz.lays194_ren:={
 mixed:=by kernel_rfl
 f194:=Tryz.func163.trans (congrArg some (by kernel_rfl))
 t0:=Tryz.underlying0
 a0:=Tryz.isAgg0
 z0:=Tryz.sizeOf0
 v0:=Tryz.zeroValue0
 t3:=Tryz.underlying3
 a3:=Tryz.isAgg3
 z3:=Tryz.sizeOf3
 v3:=Tryz.zeroValue3
 t4:=Tryz.underlying4
 a4:=Tryz.isAgg4
 z4:=Tryz.sizeOf4
 v4:=Tryz.zeroValue4
 t9:=Tryz.underlying9
 a9:=Tryz.isAgg9
 z9:=Tryz.sizeOf9
 v9:=Tryz.zeroValue9
 t31:=Tryz.underlying23
 a31:=Tryz.isAgg23
 z31:=Tryz.sizeOf23
 v31:=Tryz.zeroValue23 }
open Go.RowKit Go.Lib Go.Sort in
theorem Tryz.slices_Compact_string(b c cap:Nat)(a:List (List UInt8))(w:World)(d:Holds encStr w b c a.toArray)(g:a.length<=9223372036854775807)(f:a.length<=cap):
 Calls prog 163 #[.slice (some ⟨b,c,none⟩) a.length cap] w λe w'=>e = .returned (.slice (some ⟨b,c,none⟩) (Lib.compact a).length cap)/\∃q,w'=putRow encStr (Sort.ahead w q) b c (Lib.compact a++List.replicate (a.length-(Lib.compact a).length) []).toArray:=Any.slices_Compact_string Tryz.lays194 b c cap a w d g f
open Go.RowKit Go.Lib Go.Sort in
theorem Tryz.slices_Compact_string_empty(a:Option Addr)(cap:Nat)(w:World):
 Calls prog 163 #[.slice a 0 cap] w λe w'=>e = .returned (.slice a 0 cap)/\w'=w:=Any.slices_Compact_string_empty Tryz.lays194 a cap w
open Go.RowKit Go.Sort in
theorem Tryz.slices_Sort_string_none(p:Option Addr)(cap:Nat)(w:World):
 Calls prog 205 #[.slice p 0 cap] w λe w'=>e = .returned (.tuple #[])/\w'=w:=Any.slices_Sort_string_none Tryz.lays190 p cap w
def Tryz.laysSlH6_f86_ren:Go.Shelf.Ren:=⟨fun | 6=>86 | n=>n,fun | 22=>27 | 23=>3 | 25=>73 | 3=>3 | 0=>0 | 4=>4 | n=>n,fun | n=>n⟩
theorem Tryz.laysSlH6_f86:Go.Proofs.SlLaysH.n6 Tryz.prog Tryz.laysSlH6_f86_ren:={
 mixed:=by kernel_rfl
 f6:=⟨Tryz.f86.name,by decide,Tryz.func86.trans (congrArg some (by kernel_rfl))⟩
 t0:=Tryz.underlying0
 a0:=Tryz.isAgg0
 z0:=Tryz.sizeOf0
 v0:=Tryz.zeroValue0
 t3:=Tryz.underlying3
 a3:=Tryz.isAgg3
 z3:=Tryz.sizeOf3
 v3:=Tryz.zeroValue3
 t4:=Tryz.underlying4
 a4:=Tryz.isAgg4
 z4:=Tryz.sizeOf4
 v4:=Tryz.zeroValue4
 t22:=Tryz.underlying27
 a22:=Tryz.isAgg27
 z22:=Tryz.sizeOf27
 v22:=Tryz.zeroValue27
 a23:=Tryz.isAgg3
 z23:=Tryz.sizeOf3
 t25:=Tryz.underlying73
 a25:=Tryz.isAgg73
 z25:=Tryz.sizeOf73
 v25:=Tryz.zeroValue73 }
open Go.RowKit Go.Lib in
theorem Tryz.slices_IndexFunc_empty_f86[Inhabited α](a:Option Addr)(c:Nat)(b:Value)(w:World):
 Calls prog 86 #[.slice a 0 c,b] w λe w'=>e = .returned (.int .i64 (-1))/\w'=w:=AnyE.slices_IndexFunc_empty Tryz.laysSlH6_f86 a c b w
def Tryz.laysSlH10_f146_ren:Go.Shelf.Ren:=⟨fun | 10=>146 | 6=>86 | n=>n,fun | 22=>27 | 23=>3 | 25=>73 | 3=>3 | 4=>4 | 0=>0 | n=>n,fun | n=>n⟩
theorem Tryz.laysSlH10_f146:Go.Proofs.SlLaysH.n10 Tryz.prog Tryz.laysSlH10_f146_ren:={
 mixed:=by kernel_rfl
 f6:=⟨Tryz.f86.name,by decide,Tryz.func86.trans (congrArg some (by kernel_rfl))⟩
 f10:=⟨Tryz.f146.name,by decide,Tryz.func146.trans (congrArg some (by kernel_rfl))⟩
 t0:=Tryz.underlying0
 a0:=Tryz.isAgg0
 z0:=Tryz.sizeOf0
 v0:=Tryz.zeroValue0
 t3:=Tryz.underlying3
 a3:=Tryz.isAgg3
 z3:=Tryz.sizeOf3
 v3:=Tryz.zeroValue3
 t4:=Tryz.underlying4
 a4:=Tryz.isAgg4
 z4:=Tryz.sizeOf4
 v4:=Tryz.zeroValue4
 t22:=Tryz.underlying27
 a22:=Tryz.isAgg27
 z22:=Tryz.sizeOf27
 v22:=Tryz.zeroValue27
 a23:=Tryz.isAgg3
 z23:=Tryz.sizeOf3
 t25:=Tryz.underlying73
 a25:=Tryz.isAgg73
 z25:=Tryz.sizeOf73
 v25:=Tryz.zeroValue73 }
open Go.RowKit Go.Lib Go.Sort in
theorem Tryz.slices_DeleteFunc[Inhabited α](enc:α->Value)(j:OneCell enc)(p:α->Bool)(g:Nat)(lb:Array Value)(f:∀args w,(callFunc g args).run prog w = .ok (.enter g args) w)(c:α)(o:∀w,(zeroValue 3).run prog w = .ok (enc c) w)(a b cap:Nat)(d:Array α)(w:World)(l:PredAt prog g lb enc p w)(m:PredOver prog g lb enc p a b d.size w)(h:Holds enc w a b d)(n:d.size<=9223372036854775807)(k:d.size<=cap):
 Calls prog 146 #[.slice (some ⟨a,b,none⟩) d.size cap,.func (.func g) #[] lb] w λe w'=>e = .returned (.slice (some ⟨a,b,none⟩) (d.toList.filter λx=>!p x).length cap)/\∃q,w'=putRow enc (Sort.ahead w q) a b ((d.toList.filter λx=>!p x)++List.replicate (d.size-(d.toList.filter λx=>!p x).length) c).toArray:=AnyE.slices_DeleteFunc Tryz.laysSlH10_f146 enc j p g lb f c o a b cap d w l m h n k
end Go.Proofs
