/- Texts of this seat, joined. -/
import Derived.Shelf.SlicesG.Cmp
import Derived.Ground.SlgcProg
import Derived.Shelf.Sort.Plain
import Derived.Shelf.Slices.In.SortNone
import Derived.Shelf.SlicesE.DeleteFunc
import Derived.Shelf.SlicesE.IndexFunc
import Derived.Shelf.SlSortCmp.WholeK
import Derived.Shelf.Spec.SlicesGrow
import Derived.Ground.SlgfProg
import Derived.Ground.SlsfProg
import Derived.Ground.Names8Prog
import Derived.Ground.Names2Prog
import Derived.Test.YtlkighkfkdpncaaGreatDoorProg
import Derived.Lib.Builder
import Derived.Deep.QuietTactic
import Derived.BigQuiet
import Derived.StillTailTactics
import Derived.Test.YtlkighkfkdpncaaGreatDoorM0
set_option linter.unusedSimpArgs false
set_option linter.unusedVariables false
namespace Go.Proofs
open Go.Shelf
def Tryz.lays189_ren:Go.Shelf.Ren:=⟨fun | 189=>175 | 125=>160 | 257=>191 | 128=>184 | 129=>185 | 294=>197 | 295=>198 | 296=>199 | 297=>200 | 298=>201 | 299=>202 | 216=>203 | 300=>204 | 301=>205 | 328=>207 | 329=>193 | 330=>194 | 331=>208 | 332=>209 | 215=>186 | 343=>210 | n=>n,fun | 28=>100 | 3=>3 | 46=>147 | 0=>0 | 51=>193 | 53=>212 | 4=>4 | 183=>205 | 182=>204 | 131=>122 | 5=>5 | 9=>9 | 218=>221 | 222=>225 | 228=>233 | 229=>178 | n=>n,fun | n=>n⟩
theorem Tryz.lays189:Go.Proofs.Lays.n189 Tryz.prog Tryz.lays189_ren:={
 mixed:=by kernel_rfl
 f125:=Tryz.func160.trans (congrArg some (by kernel_rfl))
 f128:=Tryz.func184.trans (congrArg some (by kernel_rfl))
 f129:=Tryz.func185.trans (congrArg some (by kernel_rfl))
 f189:=Tryz.func175.trans (congrArg some (by kernel_rfl))
 f215:=Tryz.func186.trans (congrArg some (by kernel_rfl))
 f216:=Tryz.func203.trans (congrArg some (by kernel_rfl))
 f257:=Tryz.func191.trans (congrArg some (by kernel_rfl))
 f294:=Tryz.func197.trans (congrArg some (by kernel_rfl))
 f295:=Tryz.func198.trans (congrArg some (by kernel_rfl))
 f296:=Tryz.func199.trans (congrArg some (by kernel_rfl))
 f297:=Tryz.func200.trans (congrArg some (by kernel_rfl))
 f298:=Tryz.func201.trans (congrArg some (by kernel_rfl))
 f299:=Tryz.func202.trans (congrArg some (by kernel_rfl))
 f300:=Tryz.func204.trans (congrArg some (by kernel_rfl))
 f301:=Tryz.func205.trans (congrArg some (by kernel_rfl))
 f328:=Tryz.func207.trans (congrArg some (by kernel_rfl))
 f329:=Tryz.func193.trans (congrArg some (by kernel_rfl))
 f330:=Tryz.func194.trans (congrArg some (by kernel_rfl))
 f331:=Tryz.func208.trans (congrArg some (by kernel_rfl))
 f332:=Tryz.func209.trans (congrArg some (by kernel_rfl))
 f343:=Tryz.func210.trans (congrArg some (by kernel_rfl))
 t0:=Tryz.underlying0
 a0:=Tryz.isAgg0
 z0:=Tryz.sizeOf0
 v0:=Tryz.zeroValue0
 t3:=Tryz.underlying3
 a3:=Tryz.isAgg3
 z3:=Tryz.sizeOf3
 v3:=Tryz.zeroValue3
 t4:=Tryz.underlying4
 a4:=Tryz.isAgg4
 z4:=Tryz.sizeOf4
 v4:=Tryz.zeroValue4
 t5:=Tryz.underlying5
 a5:=Tryz.isAgg5
 z5:=Tryz.sizeOf5
 v5:=Tryz.zeroValue5
 t9:=Tryz.underlying9
 a9:=Tryz.isAgg9
 z9:=Tryz.sizeOf9
 v9:=Tryz.zeroValue9
 t28:=Tryz.underlying100
 a28:=Tryz.isAgg100
 z28:=Tryz.sizeOf100
 v28:=Tryz.zeroValue100
 t46:=Tryz.underlying147
 a46:=Tryz.isAgg147
 z46:=Tryz.sizeOf147
 v46:=Tryz.zeroValue147
 t51:=Tryz.underlying193
 a51:=Tryz.isAgg193
 z51:=Tryz.sizeOf193
 v51:=Tryz.zeroValue193
 t53:=Tryz.underlying212
 a53:=Tryz.isAgg212
 z53:=Tryz.sizeOf212
 v53:=Tryz.zeroValue212
 t131:=Tryz.underlying122
 a131:=Tryz.isAgg122
 z131:=Tryz.sizeOf122
 v131:=Tryz.zeroValue122
 t182:=Tryz.underlying204
 a182:=Tryz.isAgg204
 z182:=Tryz.sizeOf204
 v182:=Tryz.zeroValue204
 t183:=Tryz.underlying205
 a183:=Tryz.isAgg205
 z183:=Tryz.sizeOf205
 v183:=Tryz.zeroValue205
 t218:=Tryz.underlying221
 a218:=Tryz.isAgg221
 z218:=Tryz.sizeOf221
 v218:=Tryz.zeroValue221
 t222:=Tryz.underlying225
 a222:=Tryz.isAgg225
 z222:=Tryz.sizeOf225
 v222:=Tryz.zeroValue225
 t228:=Tryz.underlying233
 a228:=Tryz.isAgg233
 z228:=Tryz.sizeOf233
 v228:=Tryz.zeroValue233
 t229:=Tryz.underlying178
 a229:=Tryz.isAgg178
 z229:=Tryz.sizeOf178
 v229:=Tryz.zeroValue178 }
open Go.Sort Go.RowKit in
theorem Tryz.slices_Sort_int (blk off cap:Nat) (zs:List Int) (w:World) (hH:Holds (Value.int .i64) w blk off zs.toArray) (hblk:blk < w.heap.size) (hsz:zs.length < 4611686018427387904) :
 Calls Tryz.prog 175 #[.slice (some ⟨blk,off,none⟩) zs.length cap] w fun e w' =>
  e=.returned (.tuple #[])/\∃ n os,w'=grow (putRow (Value.int .i64) (Sort.ahead w n) blk off (zs.mergeSort fun x y=>decide (x<=y)).toArray) os:=Any.slices_Sort_int Tryz.lays189 blk off cap zs w hH hblk hsz
open Go.RowKit Go.Sort in
theorem Tryz.slices_Sort_int_none (p:Option Addr) (cap:Nat) (w:World) :
 Calls Tryz.prog 175 #[.slice p 0 cap] w fun e w'=>e=.returned (.tuple #[])/\w'=w:=Any.slices_Sort_int_none Tryz.lays189 p cap w
def Tryz.laysSlH6_f174_ren:Go.Shelf.Ren:=⟨fun | 6=>174 | n=>n,fun | 22=>100 | 23=>3 | 25=>103 | 3=>3 | 0=>0 | 4=>4 | n=>n,fun | n=>n⟩
theorem Tryz.laysSlH6_f174:Go.Proofs.SlLaysH.n6 Tryz.prog Tryz.laysSlH6_f174_ren:={
 mixed:=by kernel_rfl
 f6:=⟨Tryz.f174.name,by decide,Tryz.func174.trans (congrArg some (by kernel_rfl))⟩
 t0:=Tryz.underlying0
 a0:=Tryz.isAgg0
 z0:=Tryz.sizeOf0
 v0:=Tryz.zeroValue0
 t3:=Tryz.underlying3
 a3:=Tryz.isAgg3
 z3:=Tryz.sizeOf3
 v3:=Tryz.zeroValue3
 t4:=Tryz.underlying4
 a4:=Tryz.isAgg4
 z4:=Tryz.sizeOf4
 v4:=Tryz.zeroValue4
 t22:=Tryz.underlying100
 a22:=Tryz.isAgg100
 z22:=Tryz.sizeOf100
 v22:=Tryz.zeroValue100
 a23:=Tryz.isAgg3
 z23:=Tryz.sizeOf3
 t25:=Tryz.underlying103
 a25:=Tryz.isAgg103
 z25:=Tryz.sizeOf103
 v25:=Tryz.zeroValue103 }
open Go.RowKit Go.Lib in
theorem Tryz.slices_IndexFunc_empty {α:Type} [Inhabited α] (a:Option Addr) (c:Nat) (fv:Value) (w:World) :
 Calls Tryz.prog 174 #[.slice a 0 c,fv] w fun e w'=>e=.returned (.int .i64 (-1))/\w'=w:=AnyE.slices_IndexFunc_empty Tryz.laysSlH6_f174 a c fv w
def Tryz.laysSlH10_f156_ren:Go.Shelf.Ren:=⟨fun | 10=>156 | 6=>174 | n=>n,fun | 22=>100 | 23=>3 | 25=>103 | 3=>3 | 4=>4 | 0=>0 | n=>n,fun | n=>n⟩
theorem Tryz.laysSlH10_f156:Go.Proofs.SlLaysH.n10 Tryz.prog Tryz.laysSlH10_f156_ren:={
 mixed:=by kernel_rfl
 f6:=⟨Tryz.f174.name,by decide,Tryz.func174.trans (congrArg some (by kernel_rfl))⟩
 f10:=⟨Tryz.f156.name,by decide,Tryz.func156.trans (congrArg some (by kernel_rfl))⟩
 t0:=Tryz.underlying0
 a0:=Tryz.isAgg0
 z0:=Tryz.sizeOf0
 v0:=Tryz.zeroValue0
 t3:=Tryz.underlying3
 a3:=Tryz.isAgg3
 z3:=Tryz.sizeOf3
 v3:=Tryz.zeroValue3
 t4:=Tryz.underlying4
 a4:=Tryz.isAgg4
 z4:=Tryz.sizeOf4
 v4:=Tryz.zeroValue4
 t22:=Tryz.underlying100
 a22:=Tryz.isAgg100
 z22:=Tryz.sizeOf100
 v22:=Tryz.zeroValue100
 a23:=Tryz.isAgg3
 z23:=Tryz.sizeOf3
 t25:=Tryz.underlying103
 a25:=Tryz.isAgg103
 z25:=Tryz.sizeOf103
 v25:=Tryz.zeroValue103 }
open Go.RowKit Go.Lib Go.Sort in
theorem Tryz.slices_DeleteFunc {α:Type} [Inhabited α] (enc:α->Value) (hO:OneCell enc) (p:α->Bool) (g:Nat) (lb:Array Value) (eg:∀ args w,(callFunc g args).run Tryz.prog w=.ok (.enter g args) w) (zr:α) (v23:∀ w,(zeroValue 3).run Tryz.prog w=.ok (enc zr) w) (blk off cap:Nat) (d:Array α) (w:World) (hp:PredAt Tryz.prog g lb enc p w) (hpo:PredOver Tryz.prog g lb enc p blk off d.size w) (hH:Holds enc w blk off d) (hsz:d.size<=9223372036854775807) (hcap:d.size<=cap) :
 Calls Tryz.prog 156 #[.slice (some ⟨blk,off,none⟩) d.size cap,.func (.func g) #[] lb] w fun e w'=>e=.returned (.slice (some ⟨blk,off,none⟩) (d.toList.filter fun x=>!p x).length cap)/\∃ q,w'=putRow enc (Sort.ahead w q) blk off ((d.toList.filter fun x=>!p x)++List.replicate (d.size - (d.toList.filter fun x=>!p x).length) zr).toArray:=AnyE.slices_DeleteFunc Tryz.laysSlH10_f156 enc hO p g lb eg zr v23 blk off cap d w hp hpo hH hsz hcap
def Tryz.laysSF_ren:Go.Shelf.Ren:=⟨fun | 6=>128 | 15=>160 | 14=>159 | 28=>184 | 29=>185 | 20=>176 | 21=>177 | 22=>178 | 23=>179 | 24=>180 | 25=>181 | 26=>182 | 27=>183 | 46=>192 | 47=>193 | 48=>194 | 49=>195 | 50=>196 | 57=>206 | n=>n,fun | 22=>37 | 24=>31 | 25=>162 | 3=>3 | 39=>147 | 0=>0 | 53=>193 | 55=>212 | 4=>4 | 46=>205 | 45=>204 | 50=>122 | 5=>5 | 9=>9 | 66=>221 | 70=>225 | 76=>233 | 77=>178 | n=>n,fun | n=>n⟩
theorem Tryz.laysSF:Go.Proofs.SlLaysF0.n6 Tryz.prog Tryz.laysSF_ren:={
 mixed:=by kernel_rfl
 f6:=⟨Tryz.f128.name,by decide,Tryz.func128.trans (congrArg some (by kernel_rfl))⟩
 f14:=⟨Tryz.f159.name,by decide,Tryz.func159.trans (congrArg some (by kernel_rfl))⟩
 f15:=Tryz.func160.trans (congrArg some (by kernel_rfl))
 f20:=⟨Tryz.f176.name,by decide,Tryz.func176.trans (congrArg some (by kernel_rfl))⟩
 f21:=⟨Tryz.f177.name,by decide,Tryz.func177.trans (congrArg some (by kernel_rfl))⟩
 f22:=⟨Tryz.f178.name,by decide,Tryz.func178.trans (congrArg some (by kernel_rfl))⟩
 f23:=⟨Tryz.f179.name,by decide,Tryz.func179.trans (congrArg some (by kernel_rfl))⟩
 f24:=⟨Tryz.f180.name,by decide,Tryz.func180.trans (congrArg some (by kernel_rfl))⟩
 f25:=⟨Tryz.f181.name,by decide,Tryz.func181.trans (congrArg some (by kernel_rfl))⟩
 f26:=⟨Tryz.f182.name,by decide,Tryz.func182.trans (congrArg some (by kernel_rfl))⟩
 f27:=⟨Tryz.f183.name,by decide,Tryz.func183.trans (congrArg some (by kernel_rfl))⟩
 f28:=Tryz.func184.trans (congrArg some (by kernel_rfl))
 f29:=Tryz.func185.trans (congrArg some (by kernel_rfl))
 f46:=⟨Tryz.f192.name,by decide,Tryz.func192.trans (congrArg some (by kernel_rfl))⟩
 f47:=Tryz.func193.trans (congrArg some (by kernel_rfl))
 f48:=Tryz.func194.trans (congrArg some (by kernel_rfl))
 f49:=⟨Tryz.f195.name,by decide,Tryz.func195.trans (congrArg some (by kernel_rfl))⟩
 f50:=⟨Tryz.f196.name,by decide,Tryz.func196.trans (congrArg some (by kernel_rfl))⟩
 f57:=⟨Tryz.f206.name,by decide,Tryz.func206.trans (congrArg some (by kernel_rfl))⟩
 t0:=Tryz.underlying0
 a0:=Tryz.isAgg0
 z0:=Tryz.sizeOf0
 v0:=Tryz.zeroValue0
 t3:=Tryz.underlying3
 a3:=Tryz.isAgg3
 z3:=Tryz.sizeOf3
 v3:=Tryz.zeroValue3
 t4:=Tryz.underlying4
 a4:=Tryz.isAgg4
 z4:=Tryz.sizeOf4
 v4:=Tryz.zeroValue4
 t5:=Tryz.underlying5
 a5:=Tryz.isAgg5
 z5:=Tryz.sizeOf5
 v5:=Tryz.zeroValue5
 t9:=Tryz.underlying9
 a9:=Tryz.isAgg9
 z9:=Tryz.sizeOf9
 v9:=Tryz.zeroValue9
 t22:=Tryz.underlying37
 a22:=Tryz.isAgg37
 z22:=Tryz.sizeOf37
 v22:=Tryz.zeroValue37
 t25:=Tryz.underlying162
 a25:=Tryz.isAgg162
 z25:=Tryz.sizeOf162
 v25:=Tryz.zeroValue162
 t39:=Tryz.underlying147
 a39:=Tryz.isAgg147
 z39:=Tryz.sizeOf147
 v39:=Tryz.zeroValue147
 t45:=Tryz.underlying204
 a45:=Tryz.isAgg204
 z45:=Tryz.sizeOf204
 v45:=Tryz.zeroValue204
 t46:=Tryz.underlying205
 a46:=Tryz.isAgg205
 z46:=Tryz.sizeOf205
 v46:=Tryz.zeroValue205
 t50:=Tryz.underlying122
 a50:=Tryz.isAgg122
 z50:=Tryz.sizeOf122
 v50:=Tryz.zeroValue122
 t53:=Tryz.underlying193
 a53:=Tryz.isAgg193
 z53:=Tryz.sizeOf193
 v53:=Tryz.zeroValue193
 t55:=Tryz.underlying212
 a55:=Tryz.isAgg212
 z55:=Tryz.sizeOf212
 v55:=Tryz.zeroValue212
 t66:=Tryz.underlying221
 a66:=Tryz.isAgg221
 z66:=Tryz.sizeOf221
 v66:=Tryz.zeroValue221
 t70:=Tryz.underlying225
 a70:=Tryz.isAgg225
 z70:=Tryz.sizeOf225
 v70:=Tryz.zeroValue225
 t76:=Tryz.underlying233
 a76:=Tryz.isAgg233
 z76:=Tryz.sizeOf233
 v76:=Tryz.zeroValue233
 t77:=Tryz.underlying178
 a77:=Tryz.isAgg178
 z77:=Tryz.sizeOf178
 v77:=Tryz.zeroValue178 }
def Tryz.laysGrow_ren:Go.Shelf.Ren:=⟨fun | 4=>167 | n=>n,fun | 22=>175 | 25=>169 | 3=>3 | 4=>4 | 9=>9 | 20=>20 | 0=>0 | n=>n,fun | n=>n⟩
theorem Tryz.laysGrow:Go.Proofs.Lays8.n4 Tryz.prog Tryz.laysGrow_ren:={
 mixed:=by kernel_rfl
 f4:=⟨Tryz.f167.name,by decide,Tryz.func167.trans (congrArg some (by kernel_rfl))⟩
 t0:=Tryz.underlying0
 a0:=Tryz.isAgg0
 z0:=Tryz.sizeOf0
 v0:=Tryz.zeroValue0
 t3:=Tryz.underlying3
 a3:=Tryz.isAgg3
 z3:=Tryz.sizeOf3
 v3:=Tryz.zeroValue3
 t4:=Tryz.underlying4
 a4:=Tryz.isAgg4
 z4:=Tryz.sizeOf4
 v4:=Tryz.zeroValue4
 t9:=Tryz.underlying9
 a9:=Tryz.isAgg9
 z9:=Tryz.sizeOf9
 v9:=Tryz.zeroValue9
 t20:=Tryz.underlying20
 a20:=Tryz.isAgg20
 z20:=Tryz.sizeOf20
 v20:=Tryz.zeroValue20
 t22:=Tryz.underlying175
 a22:=Tryz.isAgg175
 z22:=Tryz.sizeOf175
 v22:=Tryz.zeroValue175 }
def Tryz.laysCmp_ren:Go.Shelf.Ren:=⟨fun | 5=>162 | 7=>186 | n=>n,fun | 22=>3 | 3=>3 | 4=>4 | n=>n,fun | n=>n⟩
theorem Tryz.laysCmp:Go.Proofs.SlLaysC2.n5 Tryz.prog Tryz.laysCmp_ren:={
 mixed:=by kernel_rfl
 f5:=⟨Tryz.f162.name,by decide,Tryz.func162.trans (congrArg some (by kernel_rfl))⟩
 f7:=⟨Tryz.f186.name,by decide,Tryz.func186.trans (congrArg some (by kernel_rfl))⟩
 t3:=Tryz.underlying3
 a3:=Tryz.isAgg3
 z3:=Tryz.sizeOf3
 v3:=Tryz.zeroValue3
 t4:=Tryz.underlying4
 a4:=Tryz.isAgg4
 z4:=Tryz.sizeOf4
 v4:=Tryz.zeroValue4
 t22:=Tryz.underlying3
 a22:=Tryz.isAgg3
 z22:=Tryz.sizeOf3
 v22:=Tryz.zeroValue3 }
def Tryz.laysCmpK_ren:Go.Shelf.Ren:=⟨fun | 5=>163 | 7=>187 | n=>n,fun | 22=>22 | 3=>3 | 4=>4 | n=>n,fun | n=>n⟩
theorem Tryz.laysCmpK:Go.Proofs.SlLaysC2.n5 Tryz.prog Tryz.laysCmpK_ren:={
 mixed:=by kernel_rfl
 f5:=⟨Tryz.f163.name,by decide,Tryz.func163.trans (congrArg some (by kernel_rfl))⟩
 f7:=⟨Tryz.f187.name,by decide,Tryz.func187.trans (congrArg some (by kernel_rfl))⟩
 t3:=Tryz.underlying3
 a3:=Tryz.isAgg3
 z3:=Tryz.sizeOf3
 v3:=Tryz.zeroValue3
 t4:=Tryz.underlying4
 a4:=Tryz.isAgg4
 z4:=Tryz.sizeOf4
 v4:=Tryz.zeroValue4
 t22:=Tryz.underlying22
 a22:=Tryz.isAgg22
 z22:=Tryz.sizeOf22
 v22:=Tryz.zeroValue22 }
end Go.Proofs
namespace Go.Proofs.YtlkighkfkdpncaaGreatDoor
open Go Go.Am Go.RowKit
theorem ka [Bas] {ι:Inj} {σ:Heap} {W W':World} (hR:RelW ι σ W) {b:Nat} {p:Am.Place} {x x':Blk} (hp:ι b=some p) (hb:σ[b]? = some x) (hm:x.mut=true)
  (hs:Same W W') (hh:∀ c,c < W.heap.size->c≠p.c->W'.heap[c]? = W.heap[c]?) (hx:BlkR ι W' x' p):Post ι σ W ι (σ.set b x') W':=by
 have hlt:b < σ.length:=by
  rcases Za0 b σ.length with h | h
  ·exact h
  rw [Zbg h] at hb; simp at hb
 have hmut:∀ c,mutb (σ.set b x') c->mutb σ c:=by
  rintro c ⟨y,hy,hym⟩
  by_cases e:b=c
  ·subst e; exact ⟨x,hb,hm⟩
  rw [Zbl e] at hy; exact ⟨y,hy,hym⟩
 have hlive:∀ c,X8 (σ.set b x') c->X8 σ c:=by
  rintro c ⟨y,hy,hym⟩
  by_cases e:b=c
  ·subst e; exact ⟨x,hb,ql hm⟩
  rw [Zbl e] at hy; exact ⟨y,hy,hym⟩
 refine ⟨hs,.refl ι,⟨fun c q hq=>ZaH (hR.lt c q hq) hs.size,fun c q y hq hy=>?_,fun c c' q q' hq hq' hne h1 h2=>hR.sep c c' q q' hq hq' hne (hmut c h1) (hlive c' h2),fun c q hq h=>hR.gap c q hq (hmut c h),ZaZ hR.bsz hs.size,fun c hc=>(hh c (ZaH hc hR.bsz) (by have:=hR.gap b p hp ⟨x,hb,hm⟩; omega)).trans (hR.bas c hc)⟩,by simp,fun c hc1 hc=>?_,fun c q hq hn=>by simp [hq] at hn,fun c _ h=>hmut c h,fun c _ h=>hlive c h⟩
 ·by_cases e:b=c
  ·subst e
   rw [hp] at hq
   injection hq with hq
   subst hq
   rw [Zbe hlt] at hy
   injection hy with hy
   subst hy
   exact hx
  rw [Zbl e] at hy
  have hold:=hR.blk c q y hq hy
  cases hyl:y.live with
  | true=>exact hold.keep (.refl ι) (hh _ (hR.lt c q hq) (fun hc=>hR.sep b c p q hp hq e ⟨x,hb,hm⟩ ⟨y,hy,hyl⟩ hc.symm))
  | false=>cases y <;> simp [Blk.live] at hyl; trivial
 exact hh c hc1 (fun e=>hc b p hp ⟨x,hb,hm⟩ e.symm)
theorem wy {α:Type} [Inhabited α] {ι:Inj} {W:World} {q:Nat} {g:Nat->S} {p:Am.Place} (hB:BlkR ι W (.sc .grow q g) p) (enc:α->Value) (d:Array α) (l:List Int) (hl:d.size=l.length) (hq:l.length<=q) (hd:∀ i,i < l.length->enc d[i]! = .int .i64 (l.getD i 0)) (n:Nat) (os:Array Obj) (hlt:p.c < W.heap.size) :
  BlkR ι (Sort.grow (Sort.putRow enc (Sort.ahead W n) p.c p.base d) os) (.sc .grow q (ED l g)) p/\(∀ c,c < W.heap.size->c≠p.c->(Sort.grow (Sort.putRow enc (Sort.ahead W n) p.c p.base d) os).heap[c]? = W.heap[c]?):=by
 obtain ⟨h1,h2,h3⟩:=hB
 obtain ⟨hb0,hle,cs,T,hc,hs,hT⟩:=h3 rfl
 have hH:(Sort.putRow enc (Sort.ahead W n) p.c p.base d).heap=W.heap.modify p.c (Sort.onCells (Sort.putCells enc p.base d)):=rfl
 have hsz:(Sort.putRow enc (Sort.ahead W n) p.c p.base d).heap.size=W.heap.size:=by rw [hH]; simp
 have hg:(Sort.grow (Sort.putRow enc (Sort.ahead W n) p.c p.base d) os).heap[p.c]? = some (.cells (Sort.putCells enc p.base d cs) T (0,0)):=by
  rw [Sort.heap_grow_old _ _ (by rw [hsz]; exact hlt),hH,Array.getElem?_modify,Za8 rfl,hc]; rfl
 have hcell:∀ i,(Sort.grow (Sort.putRow enc (Sort.ahead W n) p.c p.base d) os).cell? ⟨p.c,p.base+i,none⟩=(Sort.putCells enc p.base d cs)[p.base+i]?:=fun i=>Lib.cell_of_heap hg _
 refine ⟨⟨h1,fun i hi=>?_,fun _=>⟨hb0,hle,_,T,hg,?_,hT⟩⟩,fun c hc1 hc2=>?_⟩
 ·rw [hcell]
  have h0:=h2 i hi
  rw [Lib.cell_of_heap hc] at h0
  unfold Sort.putCells ED
  rw [Array.getElem?_mapIdx,h0,Option.map_some]
  by_cases hil:i < l.length
  ·rw [Za8 (by omega),show Nat.blt i l.length=true from ZaA hil,cond_true,Nat.add_sub_cancel_left,hd i hil]; rfl
  have hbf:Nat.blt i l.length=false:=by
   cases h:Nat.blt i l.length with
   | false=>rfl
   | true=>exact absurd (YF h) (by omega)
  rw [Za7 (by omega),hbf,cond_false]
 ·unfold Sort.putCells
  rw [Array.size_mapIdx]; exact hs
 rw [Sort.heap_grow_old _ _ (by rw [hsz]; exact hc1),hH,Array.getElem?_modify,Za7 (fun e=>hc2 e.symm)]
theorem Dv {x:S} (h:VY x=true):x.val=.int .i64 (Ws x):=by
 cases x with
 | int k n=>cases k <;> first | rfl | cases h
 | _=>cases h
theorem RA {p:Nat->Bool}:∀ {n:Nat},Xs n p=true->∀ i,i < n->p i=true
 | n+1,h,i,hi=>by
  have h:(Xs n p&&p n)=true:=h
  rw [ZaM] at h
  by_cases e:i=n
  ·subst e; exact h.2
  exact RA h.1 i (by omega)
theorem QG (g:Nat->S) (m:Nat):(XW g m).length=m:=by simp [XW]
theorem Zb8 (g:Nat->S) {m i:Nat} (hi:i < m):(XW g m).getD i 0=Ws (g i):=by
 unfold XW
 rw [Zau,Zbp,Zbm hi]; rfl
theorem wB (l:List Int) {i:Nat} (hi:i < l.length):l.toArray[i]! = l.getD i 0:=by
 rw [Zau,Zav hi,getElem!_pos l.toArray i (by simpa using hi)]; simp
theorem qB {ι:Inj} {W:World} {q m:Nat} {g:Nat->S} {p:Am.Place} (hB:BlkR ι W (.sc .grow q g) p) (hm:m<=q) (hg:∀ i,i < m->VY (g i)=true):Sort.Holds (Value.int .i64) W p.c p.base (XW g m).toArray:=by
 obtain ⟨h1,h2,h3⟩:=hB
 obtain ⟨hb0,hle,cs,T,hc,hs,hT⟩:=h3 rfl
 intro j hj
 have hj:j < m:=by simpa [XW] using hj
 refine ⟨?_,Lib.frozen_of_heap hc _⟩
 rw [h2 j (by omega),Dv (hg j hj),wB _ (by rw [QG]; exact hj),Zb8 g hj]
section
variable {σ σ':Heap} {args:List V} {v:V} {ι:Inj} {W:World} {av:List Value}
theorem srt_ok [Bas] (h:TG args σ=some (v,σ')) (hR:RelW ι σ W) (hD:Dom ι σ) (hv:VRL ι args av) :
  Calls Tryz.prog 175 av.toArray W fun e W'=>∃ ι' v',e=.returned v'/\VR ι' v v'/\Post ι σ W ι' σ' W':=by
 unfold TG at h
 split at h
 ·injection h with h
  injection h with h1 h2
  subst h1; subst h2
  simp only [VRL,VR] at hv
  obtain ⟨_,_,rfl,rfl,rfl⟩:=hv
  refine (Tryz.slices_Sort_int_none none 0 W).mono ?_
  rintro e W' ⟨rfl,rfl⟩
  exact ⟨ι,_,rfl,⟨[],rfl,rfl⟩,(QPost.refl hR).post⟩
 ·rename_i b m
  split at h
  ·rename_i q g hb
   cases hc:(Xs m (fun i=>VY (g i))&&Nat.blt m 4611686018427387904) with
   | false=>rw [hc] at h; cases h
   | true =>
    rw [hc,cond_true] at h
    rw [ZaM] at hc
    injection h with h
    injection h with h1 h2
    subst h1; subst h2
    simp only [VRL,VR] at hv
    obtain ⟨_,_,rfl,⟨p,c,hp,hle,rfl,hcap⟩,rfl⟩:=hv
    have hB:=hR.blk b p _ hp hb
    have hlt:=hR.lt b p hp
    have hmq:m<=q:=by have:=hB.1; omega
    have hm:m < 4611686018427387904:=YF hc.2
    have hcon:=Tryz.slices_Sort_int p.c p.base c (XW g m) W (qB hB hmq (RA hc.1)) hlt (by rw [QG]; exact hm)
    rw [QG] at hcon
    refine hcon.mono ?_
    rintro e W' ⟨rfl,n,os,rfl⟩
    have hsl:(K0 (XW g m)).length=m:=by rw [(Kc _).length_eq,QG]
    obtain ⟨r1,r2⟩:=wy hB (Value.int .i64) (K0 (XW g m)).toArray (K0 (XW g m)) (by simp) (by omega) (fun i hi=>congrArg (Value.int .i64) (wB _ hi)) n os hlt
    refine ⟨ι,_,rfl,⟨[],rfl,rfl⟩,ka hR hp hb rfl ⟨rfl,rfl,rfl,?_⟩ r2 r1⟩
    simp [Sort.grow,Sort.putRow,Sort.mapBlock,Sort.ahead]
  cases h
 cases h
end
end Go.Proofs.YtlkighkfkdpncaaGreatDoor
namespace Go.Proofs.YtlkighkfkdpncaaGreatDoor
open Go Go.Am Go.RowKit Go.Sort Go.Lib
set_option maxHeartbeats 4000000 in
theorem qK (H:Nat->Int) (t:Int) (ht:0<=t/\t < 64) (B o:Nat) (W:World) (hc:∀ i,i < 136->W.cell? ⟨B,o+i,none⟩=some (.int .i64 (H i))) :
  FnGives Tryz.prog 155 #[.pointer (some ⟨B,o,none⟩)] #[.int .i64 t] (.bool (U7 (ia H) t)) W:=by
 show Calls Tryz.prog 155 #[.int .i64 t,.pointer (some ⟨B,o,none⟩)] W _
 have h1:=hc (t.toNat*2) (by omega)
 have h2:=hc (t.toNat*2+1) (by omega)
 have h3:=hc 135 (by omega)
 have hr:U7 (ia H) t=(!(decide (H (t.toNat*2)=0)&&decide (H (t.toNat*2+1)=0))&&decide (H (t.toNat*2+1)=H 135)):=rfl
 rw [hr]
 clear hr hc
 obtain ⟨h0,h64⟩:=ht
 generalize H (t.toNat*2)=a at *
 generalize H (t.toNat*2+1)=b at *
 generalize H 135=c at *
 have g2:W.cell? ⟨B,o+t.toNat*2+1,none⟩=some (.int .i64 b):=h2
 have g3:W.cell? ⟨B,o+134+1,none⟩=some (.int .i64 c):=h3
 by_cases e1:a=0 <;> by_cases e2:b=0 <;> by_cases e3:b=c
 all_goals
  go_enter Tryz.func155,Tryz.ntmps155
  go_wp2
  go_quiet ((fail))
  go_wp2
  all_goals (go_ret; exact ⟨(by simp [*] <;> first | omega | (rw [ZaP]; simp <;> omega)),_,rfl⟩)
def T7 (x:Fin 64):Value:=.int .i64 (x.val:Int)
theorem pZ:∀ {l:List Int},(∀ t∈l,0≤t∧t < 64)→∃ d:List (Fin 64),d.map (fun x=>(x.val:Int))=l
 | [],_=>⟨[],rfl⟩
 | t::l,h=>by
  obtain ⟨d,hd⟩:=pZ fun u hu=>h u (.tail _ hu)
  have:=h t ZM
  exact ⟨⟨t.toNat,by omega⟩::d,by rw [List.map_cons,hd]; simp; omega⟩
theorem gU {p:Int->Bool} (d:List (Fin 64)):(d.map (fun x=>(x.val:Int))).filter p=(d.filter fun x=>p (x.val:Int)).map fun x=>(x.val:Int):=by
 rw [List.filter_map]; rfl
theorem arr64 (D:List (Fin 64)) {i:Nat} (hi:i < D.length):T7 D.toArray[i]! = .int .i64 ((D.map fun x=>(x.val:Int)).getD i 0):=by
 rw [Zau,Zbp,Zav hi,getElem!_pos D.toArray i (by simpa using hi)]
 simp [T7]
theorem pJ (w:World):Sort.grow w #[]=w:=by
 cases w; simp [Sort.grow]
theorem gy (fv:Value) (W:World):Calls Tryz.prog 156 #[.slice none 0 0,fv] W fun e w'=>e=.returned (.slice none 0 0)/\w'=W:=by
 go_enter Tryz.func156,Tryz.ntmps156
 go_wp2_with (go_at_call 174; refine (Tryz.slices_IndexFunc_empty (α:=Int) none 0 fv W).mono ?_; rintro e w' ⟨rfl,rfl⟩)
 go_ret
 exact ⟨rfl,rfl⟩
section
variable {σ σ':Heap} {args:List V} {v:V} {ι:Inj} {W:World} {av:List Value}
theorem del_ok [Bas] (h:Ty 155 args σ=some (v,σ')) (hR:RelW ι σ W) (hD:Dom ι σ) (hv:VRL ι args av) :
  Calls Tryz.prog 156 av.toArray W fun e W'=>∃ ι' v',e=.returned v'/\VR ι' v v'/\Post ι σ W ι' σ' W':=by
 have eg:∀ args w,(callFunc 155 args).run Tryz.prog w=.ok (.enter 155 args) w:=enters_of Tryz.func155 (by kernel_rfl) rfl
 unfold Ty at h
 split at h
 ·rename_i f c
  split at h
  ·rename_i hf
   subst hf
   split at h
   ·rename_i md hcell hc
    injection h with h
    injection h with h1 h2
    subst h1; subst h2
    simp only [VRL,VR] at hv
    obtain ⟨_,_,rfl,rfl,_,_,rfl,⟨cs,rfl,_⟩,rfl⟩:=hv
    refine (gy _ W).mono ?_
    rintro e W' ⟨rfl,rfl⟩
    exact ⟨ι,_,rfl,rfl,(QPost.refl hR).post⟩
   cases h
  cases h
 ·rename_i b m f c
  split at h
  ·rename_i q g md hh hb hc
   cases hcond:(decide (f=155)&&(decide (b≠c)&&(Xs m (fun i=>VY (g i)&&(decide (0<=Ws (g i))&&decide (Ws (g i) < 64)))&&(Xs 136 (fun i=>VY (hh i))&&Nat.ble m 4611686018427387904)))) with
   | false=>rw [hcond] at h; cases h
   | true =>
    rw [hcond,cond_true] at h
    injection h with h
    injection h with h1 h2
    subst h1; subst h2
    simp only [ZaM,ZaL] at hcond
    obtain ⟨rfl,hne,hg,hh64,hm⟩:=hcond
    have hm:=YF hm
    have hg1:∀ i,i < m->VY (g i)=true/\0<=Ws (g i)/\Ws (g i) < 64:=fun i hi=>by
     have:=RA hg i hi
     simpa only [ZaM,ZaL] using this
    simp only [VRL,VR] at hv
    obtain ⟨_,_,rfl,⟨p,cap,hp,hle,rfl,hcap⟩,_,_,rfl,⟨cs,rfl,_,_,rfl,⟨pc,hpc,hle2,rfl⟩,rfl⟩,rfl⟩:=hv
    obtain ⟨_,hb0,hcp,hmc,hsz,hmn⟩:=hcap
    have hB:=hR.blk b p _ hp hb
    have hC:=hR.blk c pc _ hpc hc
    have hlt:=hR.lt b p hp
    have hltc:=hR.lt c pc hpc
    have hpne:p.c≠pc.c:=hR.sep b c p pc hp hpc hne ⟨_,hb,rfl⟩ ⟨_,hc,rfl⟩
    have hq:q=m:=by have:=hB.1; omega
    obtain ⟨d,hd⟩:=pZ (l:=XW g m) (fun t ht=>by
     unfold XW at ht
     obtain ⟨i,hi,rfl⟩:=List.mem_map.1 ht
     exact (hg1 i (ZaU.1 hi)).2)
    have hdl:d.length=m:=by rw [<- QG g m,<- hd,List.length_map]
    have hcell:∀ i,i < 136->W.cell? ⟨pc.c,pc.base+0+i,none⟩=some (.int .i64 (Ws (hh i))):=fun i hi=>by
     rw [Nat.add_zero,hC.2.1 i hi,Dv (RA hh64 i hi)]
    have hH:Sort.Holds T7 W p.c (p.base+0) d.toArray:=fun j hj=>by
     have hj:j < m:=by simpa [hdl] using hj
     have h0:=qB (m:=m) hB (by omega) (fun i hi=>(hg1 i hi).1) j (by simpa [XW] using hj)
     refine ⟨?_,h0.2⟩
     rw [Nat.add_zero,h0.1,wB _ (by rw [QG]; exact hj)]
     have e:(XW g m).getD j 0=((d.toArray[j]!).val:Int):=by
      rw [<- hd,Zau,Zbp,Zav (by omega),getElem!_pos d.toArray j (by simpa [hdl] using hj)]; simp
     rw [e]; rfl
    have hcon:=Tryz.slices_DeleteFunc T7 (fun _=>rfl) (fun x=>U7 hh (x.val:Int)) 155 #[.pointer (some ⟨pc.c,pc.base+0,none⟩)] eg 0 Tryz.zeroValue3 p.c (p.base+0) cap d.toArray W
     (fun W' x hb'=>qK (fun i=>Ws (hh i)) (x.val:Int) (by omega) pc.c (pc.base+0) W' (fun i hi=>(hb'.cell (p:=⟨pc.c,pc.base+0+i,none⟩) hltc).trans (hcell i hi)))
     (fun n os dk x _=>qK (fun i=>Ws (hh i)) (x.val:Int) (by omega) pc.c (pc.base+0) _ (fun i hi=>by
      unfold sortWorld
      rw [cell?_grow _ _ _ (by show pc.c < (putRow _ _ _ _ _).heap.size; rw [size_putRow]; exact hltc),cell?_putRow_other _ _ p.c (p.base+0) _ _ (Or.inl (fun e=>hpne e.symm))]
      exact hcell i hi)) hH (by simp [hdl]; omega) (by simp [hdl]; omega)
    rw [show d.toArray.size=m by simp [hdl]] at hcon
    rw [show d.toArray.toList=d from rfl] at hcon
    have hL:(d.filter fun x=>!U7 hh (x.val:Int)).map (fun x=>(x.val:Int))=(XW g m).filter fun t=>!U7 hh t:=by
     rw [<- hd,gU (p:=fun t=>!U7 hh t)]
    have hDm:(d.filter fun x=>!U7 hh (x.val:Int)).length<=m:=by rw [<- hdl]; exact Zbk _ _
    generalize (d.filter fun x=>!U7 hh (x.val:Int))=D at hcon hL hDm
    generalize ((XW g m).filter fun t=>!U7 hh t)=l at hL ⊢
    refine hcon.mono ?_
    rintro e W' ⟨rfl,n,rfl⟩
    have hlen:l.length=D.length:=by rw [<- hL,List.length_map]
    have hfull:(D++List.replicate (m - D.length) (0:Fin 64)).map (fun x=>(x.val:Int))=l++List.replicate (m - D.length) 0:=by
     rw [List.map_append,hL,List.map_replicate]; rfl
    have hrp:=wy hB T7 (D++List.replicate (m - D.length) (0:Fin 64)).toArray (l++List.replicate (m - D.length) 0) (by simp [hlen]) (by simp [hlen]; omega)
     (fun i hi=>by rw [<- hfull]; exact arr64 _ (by rw [<- hfull,List.length_map] at hi; exact hi)) n #[] hlt
    rw [pJ] at hrp
    obtain ⟨⟨r1,r2,r3⟩,r4⟩:=hrp
    have hlt':p.c < (putRow T7 (Sort.ahead W n) p.c p.base (D++List.replicate (m - D.length) (0:Fin 64)).toArray).heap.size:=by rw [size_putRow]; exact hlt
    refine ⟨ι.put σ.length ⟨p.c,p.base,l.length,p.cap,p.sz⟩,_,rfl,⟨⟨p.c,p.base,l.length,p.cap,p.sz⟩,cap,Inj.put_same _ _ _,by simp,by rw [hlen],rfl,hb0,hcp,by omega,hsz,by simp⟩,?_⟩
    change Post _ _ _ _ _ (putRow T7 (Sort.ahead W n) p.c p.base (D++List.replicate (m - D.length) (0:Fin 64)).toArray)
    refine Tt hR hD hp hb rfl ⟨rfl,rfl,rfl,by rw [size_putRow]; exact Za1 _⟩ r4 (.inl rfl) hlt' ⟨rfl,fun i hi=>?_,fun _=>?_⟩
    ·have h0:=r2 i (by omega)
     rw [h0]
     have hi':i < l.length:=hi
     unfold ED
     rw [show Nat.blt i (l++List.replicate (m - D.length) (0:Int)).length=true from ZaA (by simp; omega),cond_true,Zau,Zbc hi',<- Zau]
    obtain ⟨x1,x2,x3⟩:=r3 rfl
    exact ⟨x1,by show l.length<=p.sz; omega,x3⟩
  cases h
 cases h
end
end Go.Proofs.YtlkighkfkdpncaaGreatDoor
namespace Go.Proofs.YtlkighkfkdpncaaGreatDoor
open Go Go.Am Go.RowKit Go.Sort Go.Lib
section
variable {σ σ':Heap} {args:List V} {v:V} {ι:Inj} {W:World} {av:List Value}
theorem grw_ok [Bas] (h:Tm args σ=some (v,σ')) (hR:RelW ι σ W) (hD:Dom ι σ) (hv:VRL ι args av) :
  Calls Tryz.prog 167 av.toArray W fun e W'=>∃ ι' v',e=.returned v'/\VR ι' v v'/\Post ι σ W ι' σ' W':=by
 unfold Tm at h
 split at h
 ·rename_i n
  split at h
  ·rename_i hn
   injection h with h
   injection h with h1 h2
   subst h1; subst h2
   simp only [VRL,VR,S.val] at hv
   obtain ⟨_,_,rfl,rfl,_,_,rfl,rfl,rfl⟩:=hv
   obtain ⟨m,rfl⟩:∃ m:Nat,n=m:=⟨n.toNat,by omega⟩
   have h169:(Tryz.laysGrow_ren).t 25=169:=rfl
   obtain ⟨i,zv,hi,hisz,hiby,hizero,hzv⟩:=xX (P:=Tryz.prog) (e:=169) (n:=2) (bytes:=16) (z:=.ints 2) (by kernel_rfl) (by kernel_rfl) (by kernel_rfl)
   have hzc:zv.cells.size=2:=by rw [<- VG hzv]; rfl
   have hcon:=Any8.slices_Grow_grow Tryz.laysGrow i zv hi hizero (by omega) none 0 0 m [] W (Za1 _) (by omega) (by rw [hiby]; omega) (by omega) (by simp) (fun _=>rfl) (fun a e=>by cases e)
   refine Calls.mono hcon ?_
   rintro e W' ⟨rfl,rfl⟩
   have hge:=grownCap_ge W (0+m) 0 169
   refine ⟨ι.put σ.length ⟨W.heap.size,0,0,grownCap W (0+m) 0 169,grownCap W (0+m) 0 169*2⟩,_,rfl,⟨⟨W.heap.size,0,0,grownCap W (0+m) 0 169,grownCap W (0+m) 0 169*2⟩,_,Inj.put_same _ _ _,by simp,rfl,rfl,rfl,rfl,by omega,rfl,by simp⟩,?_⟩
   refine yO hR hD _ _ _ _ rfl (fun W' hw=>⟨rfl,fun i hi=>absurd hi (by simp),fun _=>⟨rfl,Zbt _,_,_,hw,?_,trivial⟩⟩)
   have hge':m<=grownCap W m 0 169:=by simpa using hge
   simp [size_zeroCells,hzc,h169]
   omega
  cases h
 cases h
end
end Go.Proofs.YtlkighkfkdpncaaGreatDoor
namespace Go.Proofs.YtlkighkfkdpncaaGreatDoor
open Go Go.Am Go.RowKit Go.Sort Go.Lib
def or3M (a b c:Int):Int:=if a≠0 then a else if b≠0 then b else c
set_option maxHeartbeats 4000000 in
theorem or3 (a b c:Int) (B:Nat) (W:World) (h0:W.cell? ⟨B,0,none⟩=some (.int .i64 a)) (h1:W.cell? ⟨B,0+1,none⟩=some (.int .i64 b)) (h2:W.cell? ⟨B,0+2,none⟩=some (.int .i64 c)) :
  Calls Tryz.prog 161 #[.slice (some ⟨B,0,none⟩) 3 3] W fun e w'=>e=.returned (.int .i64 (or3M a b c))/\w'=W:=by
 unfold or3M
 go_enter Tryz.func161,Tryz.ntmps161
 go_wp2
 go_loop [8] (fun i=>∃ k:Nat,k<=3/\i=.int .i64 k/\(0 < k->a=0)/\(1 < k->b=0)/\(2 < k->c=0)) (fun i=>3 - (intOf i).toNat)
 case atStart=>exact ⟨0,by omega,rfl,by omega,by omega,by omega⟩
 case round =>
  obtain ⟨k,hk,rfl,k0,k1,k2⟩:=hrel
  obtain rfl | rfl | rfl | rfl:k=0\/k=1\/k=2\/k=3:=by omega
  ·by_cases e:a=0
   ·go_wp2
    all_goals exact ⟨⟨1,by omega,rfl,fun _=>e,by omega,by omega⟩,by simp [intOf]⟩
   go_wp2
   all_goals (go_ret; exact ⟨by simp [*],rfl⟩)
  ·have k0:=k0 (by omega)
   subst k0
   by_cases e:b=0
   ·go_wp2
    all_goals exact ⟨⟨2,by omega,rfl,by simp,fun _=>e,by omega⟩,by simp [intOf]⟩
   go_wp2
   all_goals (go_ret; exact ⟨by simp [*],rfl⟩)
  ·have k0:=k0 (by omega)
   have k1:=k1 (by omega)
   subst k0; subst k1
   by_cases e:c=0
   ·go_wp2
    all_goals exact ⟨⟨3,by omega,rfl,by simp,by simp,fun _=>e⟩,by simp [intOf]⟩
   go_wp2
   all_goals (go_ret; exact ⟨by simp [*],rfl⟩)
  have k0:=k0 (by omega)
  have k1:=k1 (by omega)
  have k2:=k2 (by omega)
  subst k0; subst k1; subst k2
  go_wp2
  all_goals (go_ret; exact ⟨rfl,rfl⟩)
end Go.Proofs.YtlkighkfkdpncaaGreatDoor
namespace Go.Proofs.YtlkighkfkdpncaaGreatDoor
open Go Go.Am Go.RowKit Go.Sort Go.Lib
theorem qN {P:Program} {id:Nat} {Q:Exit->Act->World->Prop} {a:Act} {w W3:World} {l:List Oper} (n:Nat) (hm:P.follows .mixedOrders=true) (hB:Region.lexTailB .any l.toArray n=true) (hw:W3=w.drew)
  (h:wpStill P l.toArray W3 (fun a'=>wpList P l.toArray Q (l.drop n) a' W3) (l.take n) a):(Code.region id l.toArray true).wp P Q a w:=by
 subst hw
 exact wp_region_still_tail n hm hB h
def Ea (m:Mv):List Value:=[.int .i64 m.1,.int .i64 m.2.1,.int .i64 m.2.2]
def wA (x y:Mv):Int:=or3M (Lib.compareInt x.1 y.1) (Lib.compareInt x.2.1 y.2.1) (Lib.compareInt x.2.2 y.2.2)
set_option maxRecDepth 100000 in
set_option maxHeartbeats 1000000 in
theorem rV (x y:Mv) (W:World):Calls Tryz.prog 129 #[.agg (Ea x).toArray,.agg (Ea y).toArray] W fun e w'=>e=.returned (.int .i64 (wA x y))/\∃ q os',w'=grow (W.drewN q) os':=by
 obtain ⟨a,b,c⟩:=x
 obtain ⟨a',b',c'⟩:=y
 have hc:=fun (x y:Int) (W':World)=>AnyG.cmp_Compare_int Tryz.laysCmp x y W'
 have hk:=fun (x y:Int) (W':World)=>AnyG.cmp_Compare_int Tryz.laysCmpK x y W'
 change ∀ x y W',Calls Tryz.prog 162 _ _ _ at hc
 change ∀ x y W',Calls Tryz.prog 163 _ _ _ at hk
 show Calls _ _ #[.agg #[.int .i64 a,.int .i64 b,.int .i64 c],.agg #[.int .i64 a',.int .i64 b',.int .i64 c']] _ _
 unfold wA
 go_enter Tryz.func129,Tryz.ntmps129
 go_wp2
 obtain ⟨W3,hW3⟩:∃ W3,W3=((W.alloc (Obj.cells #[Value.int IntKind.i64 a,Value.int IntKind.i64 b,Value.int IntKind.i64 c] 31)).alloc (Obj.cells #[Value.int IntKind.i64 a',Value.int IntKind.i64 b',Value.int IntKind.i64 c'] 31)).drew:=⟨_,rfl⟩
 have c0:W3.cell? ⟨W.heap.size,0,none⟩=some (.int .i64 a):=by subst hW3; simp
 have c1:W3.cell? ⟨W.heap.size,1,none⟩=some (.int .i64 b):=by subst hW3; simp
 have c2:W3.cell? ⟨W.heap.size,2,none⟩=some (.int .i64 c):=by subst hW3; simp
 have d0:W3.cell? ⟨W.heap.size+1,0,none⟩=some (.int .i64 a'):=by subst hW3; simp
 have d1:W3.cell? ⟨W.heap.size+1,1,none⟩=some (.int .i64 b'):=by subst hW3; simp
 have d2:W3.cell? ⟨W.heap.size+1,2,none⟩=some (.int .i64 c'):=by subst hW3; simp
 refine qN 15 (by kernel_rfl) (by kernel_rfl) hW3 ?_
 simp only [List.take_succ_cons,List.take_zero,List.drop_succ_cons,List.drop_zero]
 repeat still_step
 still_call (hc _ _ _)
 repeat still_step
 still_call (hc _ _ _)
 repeat still_step
 still_call (hk _ _ _)
 repeat still_step
 refine wpStill_nil ?_
 clear hc hk c0 c1 c2 d0 d1 d2
 have hsz:W3.heap.size=W.heap.size+2:=by subst hW3; simp
 have HW:Hid (W3=((W.alloc (Obj.cells #[Value.int IntKind.i64 a,Value.int IntKind.i64 b,Value.int IntKind.i64 c] 31)).alloc (Obj.cells #[Value.int IntKind.i64 a',Value.int IntKind.i64 b',Value.int IntKind.i64 c'] 31)).drew):=hW3
 clear hW3 hsz
 generalize hp:Lib.compareInt a a'=p
 generalize hq:Lib.compareInt b b'=q
 generalize hr:Lib.compareInt c c'=r
 go_wp2_with (go_at_call 161; refine (or3 p q r W3.heap.size (W3.alloc (Obj.cells #[Value.int IntKind.i64 p,Value.int IntKind.i64 q,Value.int IntKind.i64 r] 3)) (by simp) (by simp) (by simp)).mono ?_; rintro e w' ⟨rfl,rfl⟩)
 go_ret
 subst hp; subst hq; subst hr
 refine ⟨rfl,1,#[Obj.cells #[Value.int IntKind.i64 a,Value.int IntKind.i64 b,Value.int IntKind.i64 c] 31,Obj.cells #[Value.int IntKind.i64 a',Value.int IntKind.i64 b',Value.int IntKind.i64 c'] 31,Obj.cells #[Value.int IntKind.i64 (Lib.compareInt a a'),Value.int IntKind.i64 (Lib.compareInt b b'),Value.int IntKind.i64 (Lib.compareInt c c')] 3],?_⟩
 rw [HW.out,alloc_eq_grow,alloc_eq_grow,alloc_eq_grow,grow_grow,drew_grow,grow_grow]
 rfl
end Go.Proofs.YtlkighkfkdpncaaGreatDoor
namespace Go.Proofs.YtlkighkfkdpncaaGreatDoor
open Go Go.Am Go.RowKit Go.Sort Go.Lib Go.Shelf
set_option maxHeartbeats 2000000 in
theorem ins_nil (fv:Value) (W:World):Calls Tryz.prog 176 #[.slice none 0 0,.int .i64 0,.int .i64 0,fv] W fun e w'=>e=.returned (.tuple #[])/\w'=W:=by
 go_enter Tryz.func176,Tryz.ntmps176
 go_wp2
 refine wp_loop_rounds 1 ?_
 rw [rounds_succ]
 go_wp2
 go_end0
 exact ⟨rfl,rfl⟩
set_option maxHeartbeats 2000000 in
theorem pdq_nil (lim:Int) (fv:Value) (W:World):Calls Tryz.prog 159 #[.slice none 0 0,.int .i64 0,.int .i64 0,.int .i64 lim,fv] W fun e w'=>e=.returned (.tuple #[])/\w'=W:=by
 have hi:=fun W=>ins_nil fv W
 go_enter Tryz.func159,Tryz.ntmps159
 go_wp2
 refine wp_loop_rounds 1 ?_
 rw [rounds_succ]
 go_wp2_with (go_at_call 176; refine (hi _).mono ?_; rintro e w' ⟨rfl,rfl⟩)
 (try simp only [Exit.inBlock,Exit.then]); refine bodyPost_ret (results_none rfl _ _ _) rfl ?_
 exact ⟨rfl,rfl⟩
set_option maxHeartbeats 2000000 in
theorem Zap (fv:Value) (W:World):Calls Tryz.prog 128 #[.slice none 0 0,fv] W fun e w'=>e=.returned (.tuple #[])/\w'=W:=by
 have hp:=fun lim W=>pdq_nil lim fv W
 have hl:∀ W,Calls Tryz.prog 160 #[.int .u64 0] W fun e w'=>e=.returned (.int .i64 (Lib.bitLen 0:Nat))/\w'=W:=fun W=>by
  have h:=Any.bits_Len (SlLaysF0.n15.bits (P:=Tryz.prog) (ρ:=Tryz.laysSF_ren) { Tryz.laysSF with }) 0 W (by omega) (by omega)
  exact h
 go_enter Tryz.func128,Tryz.ntmps128
 go_wp2_with (first | (go_at_call 160; refine (hl _).mono ?_; rintro e w' ⟨rfl,rfl⟩) | (go_at_call 159; refine (hp _ _).mono ?_; rintro e w' ⟨rfl,rfl⟩))
 go_end0
 exact ⟨rfl,rfl⟩
open Go Go.Am
def ofL (x:Int):List S:=if 0<=x/\x < 64 then [.int .i64 (x % 8),.int .i64 (x / 8),.bool true] else [.int .i64 (-1),.int .i64 (-1),.bool false]
theorem sX (x:Int):WR AM 49 [.s (.int .i64 x)] [] (fun v _ _=>v=.agg 3 (lc (ofL x))):=by
 refine YJ (a:=a49) rfl rfl (YI _) (ZQ rfl) (m:=0) rfl (Ze (DT rfl (Yc (Ye (Ze (Zj rfl (Zr rfl (Zk rfl (Ys (t:=5) rfl (fun h1=>?_) (fun h1=>?_)))))))))) <;> simp only [NM] at h1
 ·refine ZD rfl (Zq rfl (Yc (ZA rfl (Ze (YB rfl (.one rfl (.one rfl .nil)) (Dx rfl rfl (.part (v:=.agg _ _) (ys:=[_,_,_]) rfl rfl rfl rfl .nil) (JE (v:=.agg _ _) rfl rfl rfl rfl rfl (K1 (ys:=[_,_,_]) rfl rfl) .here (Yc (Yi (⟨_,X9 rfl rfl ZM (YP),?_⟩))))))))))
  (rw [show ofL x=[.int .i64 (-1),.int .i64 (-1),.bool false] from Za7 (by omega)]; rfl)
 refine Yb rfl (Zj rfl (Yb rfl (Zr rfl (Zq rfl (Yc (Yj rfl (fun h2=>?_) (fun h2=>?_))))))) <;> simp only [NM] at h2
 ·refine Ze (YB rfl (.one rfl (.one rfl .nil)) (Dx rfl rfl (.part (v:=.agg _ _) (ys:=[_,_,_]) rfl rfl rfl rfl .nil) (JE (v:=.agg _ _) rfl rfl rfl rfl rfl (K1 (ys:=[_,_,_]) rfl rfl) .here (Yc (Yi (⟨_,X9 rfl rfl ZM (YP),?_⟩))))))
  (rw [show ofL x=[.int .i64 (-1),.int .i64 (-1),.bool false] from Za7 (by omega)]; rfl)
 refine Yh (Ze (Zj rfl (Zv rfl rfl (Zj rfl (Zu rfl rfl (YB rfl (.one rfl (.one rfl .nil)) (Dx rfl rfl (.part (v:=.agg _ _) (ys:=[_,_,_]) rfl rfl rfl rfl (.part (v:=.s (.bool _)) (ys:=[_,_,_]) rfl rfl rfl rfl .nil)) (JE (v:=.agg _ _) rfl rfl rfl rfl rfl (K1 (ys:=[_,_,_]) rfl rfl) .here (Yc (Yi (⟨_,X9 rfl rfl ZM (YP),?_⟩)))))))))))
 (rw [show ofL x=[.int .i64 (x % 8),.int .i64 (x / 8),.bool true] from Za8 (by omega)]; rfl)
theorem y7 (x:Int) (h:0<=x/\x < 64):RF AM 49 [.s (.int .i64 x)] (.agg 3 (lc [.int .i64 (x % 8),.int .i64 (x / 8),.bool true])):=by
 have:=YG (sX x)
 rw [ofL,Za8 h] at this
 exact this
open Go Go.Am
theorem DE (x:Int) (h:¬ (0<=x/\x < 64)):RF AM 49 [.s (.int .i64 x)] (.agg 3 (lc [.int .i64 (-1),.int .i64 (-1),.bool false])):=by
 have:=YG (sX x)
 rw [ofL,Za7 h] at this
 exact this
def zq (x:Int):Int:=if 0<=x/\x < 64 then x % 8 else -1
def Wj (x:Int):Int:=if 0<=x/\x < 64 then x / 8 else -1
def isM (x:Int):Bool:=decide (0<=x/\x < 64)
def atM (a b:Int):Int:=if 0<=a/\a < 8/\0<=b/\b < 8 then b*8+a else -1
theorem File_in (x:Int) (h:0<=x/\x < 64):WR AM 87 [.s (.int .i64 x)] [] (fun v _ _=>v=.s (.int .i64 (zq x))):=by
 refine YJ (a:=a87) rfl rfl (YI _) (ZQ rfl) (m:=0) rfl (Ze (Yq rfl (Zf (Zj rfl (Yt rfl (y7 _ h) rfl rfl rfl (D7 rfl rfl (JR (a:=.int _ _) rfl rfl rfl (Zj rfl (Yc (Yi (⟨_,YK (v:=_) rfl (YP),?_⟩)))))))))))
 rw [zq,Za8 h]; rfl
theorem oZ (x:Int) (h:¬ (0<=x/\x < 64)):WR AM 87 [.s (.int .i64 x)] [] (fun v _ _=>v=.s (.int .i64 (zq x))):=by
 refine YJ (a:=a87) rfl rfl (YI _) (ZQ rfl) (m:=0) rfl (Ze (Yq rfl (Zf (Zj rfl (Yt rfl (DE _ h) rfl rfl rfl (D7 rfl rfl (JR (a:=.int _ _) rfl rfl rfl (Zj rfl (Yc (Yi (⟨_,YK (v:=_) rfl (YP),?_⟩)))))))))))
 rw [zq,Za7 h]; rfl
theorem g8 (x:Int):RF AM 87 [.s (.int .i64 x)] (.s (.int .i64 (zq x))):=by
 by_cases h:0<=x/\x < 64
 ·exact YG (File_in x h)
 exact YG (oZ x h)
theorem Rank_in (x:Int) (h:0<=x/\x < 64):WR AM 84 [.s (.int .i64 x)] [] (fun v _ _=>v=.s (.int .i64 (Wj x))):=by
 refine YJ (a:=a84) rfl rfl (YI _) (ZQ rfl) (m:=0) rfl (Ze (Yq rfl (Zf (Zj rfl (Yt rfl (y7 _ h) rfl rfl rfl (D7 rfl rfl (JR (a:=.int _ _) rfl rfl rfl (Zj rfl (Yc (Yi (⟨_,YK (v:=_) rfl (YP),?_⟩)))))))))))
 rw [Wj,Za8 h]; rfl
theorem gv (x:Int) (h:¬ (0<=x/\x < 64)):WR AM 84 [.s (.int .i64 x)] [] (fun v _ _=>v=.s (.int .i64 (Wj x))):=by
 refine YJ (a:=a84) rfl rfl (YI _) (ZQ rfl) (m:=0) rfl (Ze (Yq rfl (Zf (Zj rfl (Yt rfl (DE _ h) rfl rfl rfl (D7 rfl rfl (JR (a:=.int _ _) rfl rfl rfl (Zj rfl (Yc (Yi (⟨_,YK (v:=_) rfl (YP),?_⟩)))))))))))
 rw [Wj,Za7 h]; rfl
theorem K7 (x:Int):RF AM 84 [.s (.int .i64 x)] (.s (.int .i64 (Wj x))):=by
 by_cases h:0<=x/\x < 64
 ·exact YG (Rank_in x h)
 exact YG (gv x h)
theorem Is_in (x:Int) (h:0<=x/\x < 64):WR AM 74 [.s (.int .i64 x)] [] (fun v _ _=>v=.s (.bool (isM x))):=by
 refine YJ (a:=a74) rfl rfl (YI _) (ZQ rfl) (m:=0) rfl (Ze (Yq rfl (Zf (Zj rfl (Yt rfl (y7 _ h) rfl rfl rfl (JR (a:=.bool _) rfl rfl rfl (Yq (v:=.s _) rfl (Yc (Yi (⟨_,YK (v:=_) rfl (YP),?_⟩))))))))))
 rw [isM,ZaV h]; rfl
theorem Is_out (x:Int) (h:¬ (0<=x/\x < 64)):WR AM 74 [.s (.int .i64 x)] [] (fun v _ _=>v=.s (.bool (isM x))):=by
 refine YJ (a:=a74) rfl rfl (YI _) (ZQ rfl) (m:=0) rfl (Ze (Yq rfl (Zf (Zj rfl (Yt rfl (DE _ h) rfl rfl rfl (JR (a:=.bool _) rfl rfl rfl (Yq (v:=.s _) rfl (Yc (Yi (⟨_,YK (v:=_) rfl (YP),?_⟩))))))))))
 rw [isM,ZaT h]; rfl
theorem KQ (x:Int):RF AM 74 [.s (.int .i64 x)] (.s (.bool (isM x))):=by
 by_cases h:0<=x/\x < 64
 ·exact YG (Is_in x h)
 exact YG (Is_out x h)
theorem js {A:AP} {N:Nat} {f:FE} {n:Nat} {L:HA} {K:KN} {Zp:V->KN} {l:List I} {d:Nat} {kd kd':IntKind} {x:O} {a:Int} (hx:x.fv N f=.s (.int kd' a)) (k:WO A N l (upd f d (.s (.int kd (kd.wrap a)))) n L K Zp):WO A N (⟨some d,none,.p (.conv kd x)⟩::l) f n L K Zp :=
 Vt (v:=.s (.int kd (kd.wrap a))) (by simp only [YV,Y6,hx]) k
theorem D6 {a:Int} (h:-9223372036854775808<=a/\a<=9223372036854775807):IntKind.u64.wrap a < 8↔0<=a/\a < 8:=by
 rw [IntKind.wrap_u64]
 omega
theorem atM_bd (a b:Int):-1<=atM a b/\atM a b < 64:=by
 unfold atM
 split <;> omega
theorem sd (P:Nat->Int) (ha:-9223372036854775808<=P 0/\P 0<=9223372036854775807) (hb:-9223372036854775808<=P 1/\P 1<=9223372036854775807):WR AM 134 [.agg 2 (ia P)] [] (fun v _ _=>v=.s (.bool (decide (0<=P 0/\P 0 < 8/\0<=P 1/\P 1 < 8)))):=by
 refine YJ (a:=a134) rfl rfl (YI _) (ZQ rfl) (m:=0) rfl (Ze (YC rfl (Yq rfl (Zf (Zy rfl (Ym rfl rfl ZM rfl (js rfl (Zr rfl (Zk rfl (Ys (t:=7) rfl (fun h1=>?_) (fun h1=>?_))))))))))) <;> simp only [NM] at h1
 ·refine Yb rfl (Zz rfl (Yb rfl (Ym rfl rfl ZM rfl (Yb rfl (js rfl (Yb rfl (Zr rfl (Zq rfl (Zk rfl (Zg rfl (ZI ?_)))))))))))
  have e0:=D6 ha
  have e1:=D6 hb
  rw [ZaP]
  simp only [ZaL,ZaF,Za3]
  omega
 refine ZE rfl (Zq rfl (Zk rfl (Zg rfl (ZI ?_))))
 have e0:=D6 ha
 have e1:=D6 hb
 rw [ZaP]
 simp only [ZaL,ZaF,Za3]
 omega
theorem Ez (P:Nat->Int) (ha:-9223372036854775808<=P 0/\P 0<=9223372036854775807) (hb:-9223372036854775808<=P 1/\P 1<=9223372036854775807):WR AM 112 [.agg 2 (ia P)] [] (fun v _ _=>v=.s (.int .i64 (atM (P 0) (P 1)))):=by
 refine YJ (a:=a112) rfl rfl (YI _) (ZQ rfl) (m:=0) rfl (Ze (YC rfl (Yq rfl (Yc (Ye (Ze (Yo rfl rfl ZM (Yt rfl (YG (sd _ ha hb)) rfl rfl rfl (Yv (r:=.bool _) rfl rfl (Yc (Yj rfl (fun h2=>?_) (fun h2=>?_)))))))))))) <;> simp only [NM] at h2
 ·refine Ze (Yq rfl (Yc (Yi (⟨_,ZL rfl,?_⟩))))
  refine ZJ ?_
  unfold atM
  split <;> omega
 refine Yh (Ze (Zz rfl (Ym rfl rfl ZM rfl (Wn rfl rfl (by omega) (Zy rfl (Ym rfl rfl ZM rfl (Zs rfl rfl (Zj rfl (Yc (Yi (⟨_,ZL rfl,?_⟩)))))))))))
 refine ZJ ?_
 unfold atM
 split <;> omega
theorem At_run (a b:Int) (ha:-9223372036854775808<=a/\a<=9223372036854775807) (hb:-9223372036854775808<=b/\b<=9223372036854775807):WR AM 86 [.s (.int .i64 a),.s (.int .i64 b)] [] (fun v _ _=>v=.s (.int .i64 (atM a b))):=by
 refine YJ (a:=a86) rfl rfl (YI _) (ZQ rfl) (m:=0) rfl (Ze (Yq rfl (Zf (Zj rfl (Zj rfl (YB rfl (.one rfl (.one rfl .nil)) (Yt rfl (YG (Ez _ ha hb)) rfl rfl rfl (Zj rfl (Yc (Yi (⟨_,ZL rfl,?_⟩)))))))))))
 rfl
def Y5 (s:Int):Int:=if s=0 then 1 else 0
def YZ (k s:Int):Bool:=decide (1<=k/\k<=6/\(s=0\/s=1))
def JO (x:Int):Int:=(7 - x / 8)*8+x % 8
def sideT (k s:Int):Int:=if YZ k s=true then Y5 s else s
theorem WV {P:Nat->Int} {o m:Nat} {Q:Nat->Int} {i:Nat} (h:i < o\/o+m<=i):ovA P o m Q i=P i:=by
 have e:(Nat.ble o i&&Nat.blt i (o+m))=false:=by
  cases h1:Nat.ble o i with
  | false=>rfl
  | true =>
   cases h2:Nat.blt i (o+m) with
   | false=>rfl
   | true =>
    have:=YF h1
    have:=YF h2
    omega
 show (bif Nat.ble o i&&Nat.blt i (o+m) then Q (i - o) else P i)=P i
 rw [e]; rfl
theorem X1 {P:Nat->Int} {o m:Nat} {Q:Nat->Int} {i:Nat} (h:o<=i/\i < o+m):ovA P o m Q i=Q (i - o):=by
 have e:(Nat.ble o i&&Nat.blt i (o+m))=true:=by
  rw [ZaA h.1,show Nat.blt i (o+m)=true from ZaA h.2]; rfl
 show (bif Nat.ble o i&&Nat.blt i (o+m) then Q (i - o) else P i)=Q (i - o)
 rw [e]; rfl
theorem Uc (s:Int):WR AM 53 [.s (.int .i64 s)] [] (fun v _ _=>v=.s (.int .i64 (Y5 s))):=by
 refine YJ (a:=a53) rfl rfl (YI _) (ZQ rfl) (m:=0) rfl (Ze (Yq rfl (Yc (Ye (Ze (Zj rfl (Zr rfl (Yc (Yj rfl (fun h3=>?_) (fun h3=>?_)))))))))) <;> simp only [NM] at h3
 ·refine Ze (Yq rfl (Yc (Yi (⟨_,ZL rfl,?_⟩))))
  (rw [show Y5 s=1 from Za8 (by omega)]; rfl)
 refine Yh (Ze (Yq rfl (Yc (Yi (⟨_,ZL rfl,?_⟩)))))
 (rw [show Y5 s=0 from Za7 (by omega)]; rfl)
theorem uu (P:Nat->Int):WR AM 149 [.agg 2 (ia P)] [] (fun v _ _=>v=.s (.bool (YZ (P 0) (P 1)))):=by
 refine YJ (a:=a149) rfl rfl (YI _) (ZQ rfl) (m:=0) rfl (Ze (YC rfl (Yq rfl (Zf (Zy rfl (Ym rfl rfl ZM rfl (Zr rfl (Zk rfl (Ys (t:=6) rfl (fun h4=>?_) (fun h4=>?_)))))))))) <;> simp only [NM] at h4
 ·refine Yb rfl (Zy rfl (Yb rfl (Ym rfl rfl ZM rfl (Yb rfl (Zr rfl (Zq rfl (Zk rfl (Ys (t:=11) rfl (fun h5=>?_) (fun h5=>?_))))))))) <;> simp only [NM] at h5
  ·refine Yb rfl (Zz rfl (Yb rfl (Ym rfl rfl ZM rfl (Yb rfl (Zr rfl (Yb rfl (Zk rfl (Ys (t:=15) rfl (fun h6=>?_) (fun h6=>?_))))))))) <;> simp only [NM] at h6
   ·refine ZD rfl (ZC rfl (Yb rfl (Zq rfl (Zq rfl (Zk rfl (Zg rfl (ZI ?_)))))))
    unfold YZ
    rw [ZaP]
    simp only [Za2,ZaL,ZaF,Za5,Za3]
    omega
   refine Yb rfl (Zz rfl (Yb rfl (Ym rfl rfl ZM rfl (Yb rfl (Zr rfl (Yb rfl (Zq rfl (Zq rfl (Zk rfl (Zg rfl (ZI ?_)))))))))))
   unfold YZ
   rw [ZaP]
   simp only [Za2,ZaL,ZaF,Za5,Za3]
   omega
  refine ZE rfl (YH rfl (YH rfl (YH rfl (ZC rfl (Zq rfl (Zk rfl (Zg rfl (ZI ?_))))))))
  unfold YZ
  rw [ZaP]
  simp only [Za2,ZaL,ZaF,Za5,Za3]
  omega
 refine ZD rfl (ZC rfl (Zq rfl (Zk rfl (ZE rfl (YH rfl (YH rfl (YH rfl (ZC rfl (Zq rfl (Zk rfl (Zg rfl (ZI ?_))))))))))))
 unfold YZ
 rw [ZaP]
 simp only [Za2,ZaL,ZaF,Za5,Za3]
 omega
def castT (c:Int):Int:=if 0<=c/\c<=15 then c / 4+c % 4*4 else c
def overT (x:Int):Int:=if isM x=true then JO x else x
def acr (s:Nat):Nat:=(7 - s / 8)*8+s % 8
def Turned (P Q:Nat->Int) (i:Nat):Prop:=∀ s:Nat,s < i->Q (acr s*2)=P (s*2)/\Q (acr s*2+1)=sideT (P (s*2)) (P (s*2+1))
theorem W7 {P:Nat->Int} {o i:Nat} {x:Int} (h:i≠o):ov P o x i=P i:=by
 have e:Nat.beq i o=false:=by
  cases hb:Nat.beq i o with
  | false=>rfl
  | true=>exact absurd (Zbh hb) h
 show (bif Nat.beq i o then x else P i)=P i
 rw [e]; rfl
structure TurnOf (P Q:Nat->Int):Prop where
 sq:Turned P Q 64
 side:Q 128=Y5 (P 128)
 castle:Q 129=castT (P 129)
 WN:Q 130=overT (P 130)
 half:Q 131=P 131
 full:Q 132=P 132
 out:∀ i,133<=i->Q i=0
open Go Go.Am
abbrev sqI (x:Int):Nat:=0+x.toNat*2
theorem UP {P Q X Y:Nat->Int} {o m:Nat} {n:Nat} (h:∀ i,i < n->P i=Q i) (hx:∀ j,j < m->X j=Y j):∀ i,i < n->ovA P o m X i=ovA Q o m Y i:=by
 intro i hi
 by_cases k:o<=i/\i < o+m
 ·rw [X1 k,X1 k]; exact hx _ (by omega)
 rw [WV (by omega),WV (by omega)]; exact h i hi
theorem WT (s:Int):WR AM 33 [.s (.int .i64 s)] [] (fun v _ _=>v=.s (.int .i64 (Y5 s))):=by
 refine YJ (a:=a33) rfl rfl (YI _) (ZQ rfl) (m:=0) rfl (Ze (Yq rfl (Yc (Ye (Ze (Zj rfl (Zr rfl (Yc (Yj rfl (fun h1=>?_) (fun h1=>?_)))))))))) <;> simp only [NM] at h1
 ·refine Ze (Yq rfl (Yc (Yi (⟨_,ZL rfl,?_⟩))))
  (rw [show Y5 s=1 from Za8 (by omega)]; rfl)
 refine Yh (Ze (Yq rfl (Yc (Yi (⟨_,ZL rfl,?_⟩)))))
 (rw [show Y5 s=0 from Za7 (by omega)]; rfl)
theorem TI (P:Nat->Int):WR AM 95 [.agg 2 (ia P)] [] (fun v _ _=>v=.s (.bool (YZ (P 0) (P 1)))):=by
 refine YJ (a:=a95) rfl rfl (YI _) (ZQ rfl) (m:=0) rfl (Ze (YC rfl (Yq rfl (Zf (Zy rfl (Ym rfl rfl ZM rfl (Zr rfl (Zk rfl (Ys (t:=6) rfl (fun h2=>?_) (fun h2=>?_)))))))))) <;> simp only [NM] at h2
 ·refine Yb rfl (Zy rfl (Yb rfl (Ym rfl rfl ZM rfl (Yb rfl (Zr rfl (Zq rfl (Zk rfl (Ys (t:=11) rfl (fun h3=>?_) (fun h3=>?_))))))))) <;> simp only [NM] at h3
  ·refine Yb rfl (Zz rfl (Yb rfl (Ym rfl rfl ZM rfl (Yb rfl (Zr rfl (Yb rfl (Zk rfl (Ys (t:=15) rfl (fun h4=>?_) (fun h4=>?_))))))))) <;> simp only [NM] at h4
   ·refine ZD rfl (ZC rfl (Yb rfl (Zq rfl (Zq rfl (Zk rfl (Zg rfl (ZI ?_)))))))
    rw [ZaP]
    simp only [Za2,bne_iff_ne,ne_eq,ZaL,ZaF,Za5,Za3,gt_iff_lt,ge_iff_le,isM,YZ,Bool.true_eq_false,Za6,Za4]
    omega
   refine Yb rfl (Zz rfl (Yb rfl (Ym rfl rfl ZM rfl (Yb rfl (Zr rfl (Yb rfl (Zq rfl (Zq rfl (Zk rfl (Zg rfl (ZI ?_)))))))))))
   rw [ZaP]
   simp only [Za2,bne_iff_ne,ne_eq,ZaL,ZaF,Za5,Za3,gt_iff_lt,ge_iff_le,isM,YZ,Bool.true_eq_false,Za6,Za4]
   omega
  refine ZE rfl (YH rfl (YH rfl (YH rfl (ZC rfl (Zq rfl (Zk rfl (Zg rfl (ZI ?_))))))))
  rw [ZaP]
  simp only [Za2,bne_iff_ne,ne_eq,ZaL,ZaF,Za5,Za3,gt_iff_lt,ge_iff_le,isM,YZ,Bool.true_eq_false,Za6,Za4]
  omega
 refine ZD rfl (ZC rfl (Zq rfl (Zk rfl (ZE rfl (YH rfl (YH rfl (YH rfl (ZC rfl (Zq rfl (Zk rfl (Zg rfl (ZI ?_))))))))))))
 rw [ZaP]
 simp only [Za2,bne_iff_ne,ne_eq,ZaL,ZaF,Za5,Za3,gt_iff_lt,ge_iff_le,isM,YZ,Bool.true_eq_false,Za6,Za4]
 omega
def YR (s f r:Int):Int:=if (0<=s/\s < 64)/\(-8 < f/\f < 8)/\(-8 < r/\r < 8) then atM (s % 8+f) (s / 8+r) else -1
theorem Ug (s f r:Int):-1<=YR s f r/\YR s f r < 64:=by
 unfold YR
 split
 ·exact atM_bd _ _
 omega
def onM (s f r:Int):Nat->Int:=if (0<=s/\s < 64)/\(-8 < f/\f < 8)/\(-8 < r/\r < 8) then (fun i=>if i=0 then s % 8+f else if i=1 then s / 8+r else 0) else (fun i=>if i=0 then -1 else if i=1 then -1 else 0)
theorem yI {x y:Int}:ovA (fun _=>0) 0 2 (ov (ov (fun _=>0) 0 x) 1 y)=fun i=>if i=0 then x else if i=1 then y else 0:=by
 funext i
 by_cases h0:i=0
 ·subst h0; rfl
 by_cases h1:i=1
 ·subst h1; rfl
 rw [WV (by omega),Za7 h0,Za7 h1]
theorem on_in (s f r:Int) (h:0<=s/\s < 64):WR AM 172 [.agg 3 (lc [.int .i64 (s % 8),.int .i64 (s / 8),.bool true]),.s (.int .i64 f),.s (.int .i64 r)] [] (fun v _ _=>v=.agg 2 (ia (onM s f r))):=by
 refine YJ (a:=a172) rfl rfl (YI _) (ZQ rfl) (m:=0) rfl (Ze (YC rfl (Yy (Yc (Ye (Ze (Yd (o':=2) rfl rfl rfl (Yn (x:=.bool _) rfl rfl ZN rfl (Yv (r:=.bool _) rfl rfl (Zk rfl (Yb rfl (Zj rfl (Yb rfl (Zj rfl (Yb rfl (WO_mx2 rfl rfl (Yb rfl (Zr rfl (Zq rfl (Zk rfl (Ys (t:=16) rfl (fun h5=>?_) (fun h5=>?_)))))))))))))))))))))) <;> simp only [NM] at h5
 ·refine ZE rfl (Zq rfl (Yc (ZA rfl (Ze (YB rfl (.one rfl (.one rfl .nil)) (Yz rfl rfl rfl rfl .here (Yc (Yi (⟨_,X9 rfl rfl ZM (YP),?_⟩)))))))))
  refine congrArg (fun g=>V.agg 2 (ia g)) ?_
  rw [yI]
  exact (Za7 (fun q=>by omega)).symm
 refine Yb rfl (Zj rfl (Yb rfl (Zj rfl (Yb rfl (DZ rfl rfl (Yb rfl (Zr rfl (Zq rfl (Yc (Yj rfl (fun h6=>?_) (fun h6=>?_))))))))))) <;> simp only [NM] at h6
 ·refine Ze (YB rfl (.one rfl (.one rfl .nil)) (Yz rfl rfl rfl rfl .here (Yc (Yi (⟨_,X9 rfl rfl ZM (YP),?_⟩)))))
  refine congrArg (fun g=>V.agg 2 (ia g)) ?_
  rw [yI]
  exact (Za7 (fun q=>by omega)).symm
 refine Yh (Ze (Zy rfl (Zy rfl (Yn (x:=.int _ _) rfl rfl ZN rfl (Zj rfl (Zs rfl rfl (Zy rfl (Zz rfl (Yn (x:=.int _ _) rfl rfl ZN rfl (Zj rfl (Zs rfl rfl (YB rfl (.one rfl (.one rfl .nil)) (Yz rfl rfl rfl rfl .here (Yc (Yi (⟨_,X9 rfl rfl ZM (YP),?_⟩))))))))))))))))
 refine congrArg (fun g=>V.agg 2 (ia g)) ?_
 rw [yI]
 exact (Za8 ⟨h,by omega,by omega⟩).symm
theorem on_out (s f r:Int) (h:¬ (0<=s/\s < 64)):WR AM 172 [.agg 3 (lc [.int .i64 (-1),.int .i64 (-1),.bool false]),.s (.int .i64 f),.s (.int .i64 r)] [] (fun v _ _=>v=.agg 2 (ia (onM s f r))):=by
 refine YJ (a:=a172) rfl rfl (YI _) (ZQ rfl) (m:=0) rfl (Ze (YC rfl (Yy (Yc (Ye (Ze (Yd (o':=2) rfl rfl rfl (Yn (x:=.bool _) rfl rfl ZN rfl (Yv (r:=.bool _) rfl rfl (Zk rfl (ZE rfl (Zq rfl (Zk rfl (ZE rfl (Zq rfl (Yc (ZA rfl (Ze (YB rfl (.one rfl (.one rfl .nil)) (Yz rfl rfl rfl rfl .here (Yc (Yi (⟨_,X9 rfl rfl ZM (YP),?_⟩)))))))))))))))))))))))
 refine congrArg (fun g=>V.agg 2 (ia g)) ?_
 rw [yI]
 exact (Za7 (fun q=>by omega)).symm
theorem yX (s:Int) {f r:Int} (i:Nat):-9223372036854775808<=onM s f r i/\onM s f r i<=9223372036854775807:=by
 unfold onM
 split
 ·dsimp only; split
  ·omega
  split <;> omega
 dsimp only; split
 ·omega
 split <;> omega
theorem rJ (s f r:Int):atM (onM s f r 0) (onM s f r 1)=YR s f r:=by
 unfold onM YR
 by_cases h:(0<=s/\s < 64)/\(-8 < f/\f < 8)/\(-8 < r/\r < 8)
 ·rw [Za8 h,Za8 h]; rfl
 rw [Za7 h,Za7 h]; rfl
theorem Step_in (s f r:Int) (h:0<=s/\s < 64):WR AM 152 [.s (.int .i64 s),.s (.int .i64 f),.s (.int .i64 r)] [] (fun v _ _=>v=.s (.int .i64 (YR s f r))):=by
 refine YJ (a:=a152) rfl rfl (YI _) (ZQ rfl) (m:=0) rfl (Ze (Yq rfl (Zf (Zj rfl (Yt rfl (y7 _ h) rfl rfl rfl (Zj rfl (Zj rfl (Yt rfl (YG (on_in _ _ _ h)) rfl rfl rfl (Yt rfl (YG (Ez _ (yX s 0) (yX s 1))) rfl rfl rfl (Zj rfl (Yc (Yi (⟨_,ZL rfl,?_⟩)))))))))))))
 exact congrArg (fun b=>V.s (S.int .i64 b)) (rJ s f r)
theorem Zah (s f r:Int) (h:¬ (0<=s/\s < 64)):WR AM 152 [.s (.int .i64 s),.s (.int .i64 f),.s (.int .i64 r)] [] (fun v _ _=>v=.s (.int .i64 (YR s f r))):=by
 refine YJ (a:=a152) rfl rfl (YI _) (ZQ rfl) (m:=0) rfl (Ze (Yq rfl (Zf (Zj rfl (Yt rfl (DE _ h) rfl rfl rfl (Zj rfl (Zj rfl (Yt rfl (YG (on_out _ _ _ h)) rfl rfl rfl (Yt rfl (YG (Ez _ (yX s 0) (yX s 1))) rfl rfl rfl (Zj rfl (Yc (Yi (⟨_,ZL rfl,?_⟩)))))))))))))
 exact congrArg (fun b=>V.s (S.int .i64 b)) (rJ s f r)
theorem UO (s f r:Int):RF AM 152 [.s (.int .i64 s),.s (.int .i64 f),.s (.int .i64 r)] (.s (.int .i64 (YR s f r))):=by
 by_cases h:0<=s/\s < 64
 ·exact YG (Step_in s f r h)
 exact YG (Zah s f r h)
def pickM (x n:Int):Int:=if x.tmod n < 0 then x.tmod n+n else x.tmod n
open Go Go.Am
def YT (P:Nat->Int) (x:Int):Bool:=eqI 2 (dp P (sqI x)) (fun _=>0)
def pc (k c:Int):Nat->Int:=fun i=>if i=0 then k else c
def yb:Nat->Int:=fun _=>0
def atT (P:Nat->Int) (k a t:Int):Int:=if k=1/\t % 8≠a % 8/\t=P 130/\YT P t=true then a / 8*8+t % 8 else t
def Y7 (P:Nat->Int) (k a t:Int):Int:=if YT P (atT P k a t)=true then -1 else atT P k a t
def YS (c:Int):Int:=if c=0 then 1 else 4
def Y0 (k a t c C:Int):Int:=if k=6/\a=56*c+4/\t=a+2/\C / YS c % 2=1 then 1 else if k=6/\a=56*c+4/\t=a - 2/\C / (2*YS c) % 2=1 then -1 else 0
def Vc (k a t c:Int):Bool:=decide (k=1/\t % 8=a % 8/\a / 8=1+5*c/\t / 8=a / 8+2*(1 - 2*c))
def Vb (P:Nat->Int):Int:=if P 129 < 0\/15 < P 129 then 0 else P 129
def Xz (s:Int):Int:=if 4=s then 3 else if 7=s then 1 else if 0=s then 2 else if 60=s then 12 else if 63=s then 4 else if 56=s then 8 else 0
def orM (x y:Int):Int:=IntKind.i64.wrap (BitVec.ofInt 64 x ||| BitVec.ofInt 64 y).toNat
def KM (x y:Int):Int:=IntKind.i64.wrap (BitVec.ofInt 64 x &&& BitVec.ofInt 64 y).toNat
def V2 (x y:Int):Int:=IntKind.i64.wrap (BitVec.ofInt 64 x &&& ~~~(BitVec.ofInt 64 y)).toNat
def Qr (c s k:Int):Int:=if c / k % 2=1/\s / k % 2=0 then k else 0
def Vz (c s:Int):Int:=Qr c s 1+Qr c s 2+Qr c s 4+Qr c s 8
def XH (P:Nat->Int) (a t b:Int):Bool:=decide (1<=P (sqI a)/\P (sqI a)<=6/\P (sqI a+1)=P 128/\(P (sqI a+1)=0\/P (sqI a+1)=1)/\(if P (sqI a)=1/\t / 8=7*(1 - P (sqI a+1)) then 2<=b/\b<=5 else b=0))
def Wf (P:Nat->Int) (a t b:Int):Int:=if (0<=a/\a < 64)/\(0<=t/\t < 64)/\a≠t then (if XH P a t b=true then 0 else 8) else 6
def DW (P:Nat->Int) (w:Int):Nat->Int:=if 0<=w then ovA P (sqI w) 2 yb else P
def brd2 (P:Nat->Int) (w a:Int):Nat->Int:=ovA (DW P w) (sqI a) 2 yb
def Es (P:Nat->Int) (w a t k c b:Int):Nat->Int:=ovA (brd2 P w a) (sqI t) 2 (pc (if b=0 then k else b) c)
def V0 (P:Nat->Int) (w a t k c b g:Int):Nat->Int :=
 if g=1 then ovA (ovA (Es P w a t k c b) (sqI (a+3)) 2 yb) (sqI (a+1)) 2 (pc 4 c)
 else if g=-1 then ovA (ovA (Es P w a t k c b) (sqI (a - 4)) 2 yb) (sqI (a - 1)) 2 (pc 4 c) else Es P w a t k c b
def UN (k a t c:Int):Int:=if Vc k a t c=true then (a+t) / 2 else -1
def Uo (P:Nat->Int) (k w:Int):Int:=if k=1\/0<=w then 0 else IntKind.i64.wrap (min (P 131) 1023+1)
def QY (P:Nat->Int):Int:=if P 128=1 then IntKind.i64.wrap (min (P 132) 16383+1) else P 132
def Uv (P:Nat->Int) (k c a t b C:Int):Nat->Int:=fun i =>
 if i < 128 then V0 P (Y7 P k a t) a t k c b (Y0 k a t c C) i else if i=128 then Y5 (P 128) else if i=129 then V2 C (orM (orM 0 (Xz a)) (Xz t))
 else if i=130 then UN k a t c else if i=131 then Uo P k (Y7 P k a t) else if i=132 then QY P else 0
def Xq (P:Nat->Int) (a t b:Int):Nat->Int:=if Wf P a t b=0 then Uv P (P (sqI a)) (P (sqI a+1)) a t b (Vb P) else fun _=>0
theorem UK {P:Nat->Int} {a t b:Int} (h:¬ ((0<=a/\a < 64)/\(0<=t/\t < 64)/\a≠t)):Wf P a t b=6:=Za7 h
theorem Wy {P:Nat->Int} {a t b:Int} (h:(0<=a/\a < 64)/\(0<=t/\t < 64)/\a≠t) (hc:XH P a t b=false):Wf P a t b=8:=by
 rw [Wf,Za8 h,hc]; rfl
theorem Vr {P:Nat->Int} {a t b:Int} (h:(0<=a/\a < 64)/\(0<=t/\t < 64)/\a≠t) (hc:XH P a t b=true):Wf P a t b=0:=by
 rw [Wf,Za8 h,hc]; rfl
theorem xy {P:Nat->Int} {k a t:Int} (ha:0<=a/\a < 64) (ht:0<=t/\t < 64):0<=atT P k a t/\atT P k a t < 64:=by
 unfold atT; split <;> omega
theorem VH {P:Nat->Int} {k a t:Int} (ha:0<=a/\a < 64) (ht:0<=t/\t < 64):-1<=Y7 P k a t/\Y7 P k a t < 64:=by
 have:=xy (P:=P) (k:=k) ha ht
 unfold Y7; split <;> omega
theorem p6 {c:Int} (h:c=0\/c=1):Wx .shl (.int .i64 1) (.int .i64 (2*c))=some (.int .i64 (YS c)):=by
 rcases h with rfl | rfl <;> rfl
theorem pG {c:Int} (h:c=0\/c=1):Wx .shl (.int .i64 (YS c)) (.int .u64 1)=some (.int .i64 (2*YS c)):=by
 rcases h with rfl | rfl <;> rfl
theorem and_bit:∀ C:Fin 16,∀ s∈[1,2,4,8],(KM (C.val:Int) s≠0↔(C.val:Int) / s % 2=1):=by decide +kernel
theorem ko {C s:Int} (h:0<=C/\C<=15) (hs:s=1\/s=2\/s=4\/s=8):KM C s≠0↔C / s % 2=1:=by
 obtain ⟨n,rfl⟩:∃ n:Nat,C=n:=⟨C.toNat,by omega⟩
 exact and_bit ⟨n,by omega⟩ s (by simp; omega)
theorem uz (s:Int):Xz s∈[0,1,2,3,4,8,12]:=by
 unfold Xz
 repeat' split
 all_goals decide
theorem vv:∀ C:Fin 16,∀ x∈[0,1,2,3,4,8,12],∀ y∈[0,1,2,3,4,8,12],Vz (Vz (C.val:Int) x) y=V2 (C.val:Int) (orM (orM 0 x) y):=by decide +kernel
theorem tB {C:Int} (h:0<=C/\C<=15) (a t:Int):Vz (Vz C (Xz a)) (Xz t)=V2 C (orM (orM 0 (Xz a)) (Xz t)):=by
 obtain ⟨n,rfl⟩:∃ n:Nat,C=n:=⟨C.toNat,by omega⟩
 exact vv ⟨n,by omega⟩ _ (uz a) _ (uz t)
theorem KL (c s:Int) {k:Int} (hk:0<=k):0<=Qr c s k/\Qr c s k<=k:=by
 unfold Qr; split <;> omega
theorem zQ (c s:Int):0<=Vz c s/\Vz c s<=15:=by
 have:=KL c s (k:=1) (by omega)
 have:=KL c s (k:=2) (by omega)
 have:=KL c s (k:=4) (by omega)
 have:=KL c s (k:=8) (by omega)
 unfold Vz; omega
theorem jP (s:Int):0<=Xz s/\Xz s<=15:=by
 unfold Xz
 repeat' split
 all_goals omega
theorem TK (P:Nat->Int):0<=Vb P/\Vb P<=15:=by
 unfold Vb; split <;> omega
theorem y4 {P:Nat->Int} {x:Int}:YT P x=true↔P (sqI x)=0/\P (sqI x+1)=0:=by
 unfold YT
 rw [Uw]
 constructor
 ·intro h; exact ⟨h 0 (by omega),h 1 (by omega)⟩
 rintro ⟨h0,h1⟩ i hi
 have:i=0\/i=1:=by omega
 rcases this with rfl | rfl
 ·exact h0
 exact h1
theorem R7 {P Q:Nat->Int} {x:Int} (hx:0<=x/\x < 64) (h:∀ i,i < 128->P i=Q i):YT P x=YT Q x:=by
 have e:sqI x+1 < 128:=by show 0+x.toNat*2+1 < 128; omega
 rw [ZaP,y4,y4,h _ (by omega),h _ e]
theorem oC {P Q:Nat->Int} {k a t:Int} (ht:0<=t/\t < 64) (h:∀ i,i < 128->P i=Q i) (h130:P 130=Q 130):atT P k a t=atT Q k a t:=by
 unfold atT
 rw [R7 ht h,h130]
theorem zN {P Q:Nat->Int} {k a t:Int} (ha:0<=a/\a < 64) (ht:0<=t/\t < 64) (h:∀ i,i < 128->P i=Q i) (h130:P 130=Q 130):Y7 P k a t=Y7 Q k a t:=by
 unfold Y7
 rw [oC ht h h130,R7 (xy ha ht) h]
theorem wv {x:Int} (h:0<=x/\x < 64):RF AM 87 [.s (.int .i64 x)] (.s (.int .i64 (x % 8))):=by
 have:=g8 x
 rw [zq,Za8 h] at this
 exact this
theorem To {x:Int} (h:0<=x/\x < 64):RF AM 84 [.s (.int .i64 x)] (.s (.int .i64 (x / 8))):=by
 have:=K7 x
 rw [Wj,Za8 h] at this
 exact this
theorem zk (x:Int):WR AM 57 [.s (.int .i64 x)] [] (fun v _ _=>v=.s (.bool (isM x))):=by
 refine YJ (a:=a57) rfl rfl (YI _) (ZQ rfl) (m:=0) rfl (Ze (Yq rfl (Zf (Zj rfl (Zr rfl (Zk rfl (Ys (t:=5) rfl (fun h1=>?_) (fun h1=>?_)))))))) <;> simp only [NM] at h1
 ·refine Yb rfl (Zj rfl (Yb rfl (Zr rfl (Zq rfl (Zk rfl (Zg rfl (ZI ?_)))))))
  rw [ZaP]
  simp only [Za2,bne_iff_ne,ne_eq,ZaL,ZaF,Za5,Za3,gt_iff_lt,ge_iff_le,isM,YZ,Vc,XH,Bool.true_eq_false,Za6,Za4]
  omega
 refine ZD rfl (Zq rfl (Zk rfl (Zg rfl (ZI ?_))))
 rw [ZaP]
 simp only [Za2,bne_iff_ne,ne_eq,ZaL,ZaF,Za5,Za3,gt_iff_lt,ge_iff_le,isM,YZ,Vc,XH,Bool.true_eq_false,Za6,Za4]
 omega
theorem VQ (P:Nat->Int):WR AM 63 [.agg 133 (ia P)] [] (fun v _ _=>v=.s (.int .i64 (Vb P))):=by
 refine YJ (a:=a63) rfl rfl (YI _) (ZQ rfl) (m:=0) rfl (Ze (YC rfl (Yq rfl (Yc (Ye (Ze (Yd (o':=129) rfl rfl rfl (Ym rfl rfl ZM rfl (Zr rfl (Zk rfl (Ys (t:=6) rfl (fun h2=>?_) (fun h2=>?_)))))))))))) <;> simp only [NM] at h2
 ·refine ZD rfl (ZC rfl (Zq rfl (Yc (ZA rfl (Ze (Yq rfl (Yc (Yi (⟨_,ZL rfl,?_⟩)))))))))
  exact congrArg (fun b=>V.s (S.int .i64 b)) (Za8 (by omega)).symm
 refine Yb rfl (Yd (o':=129) rfl rfl rfl (Yb rfl (Ym rfl rfl ZM rfl (Yb rfl (Zr rfl (Zq rfl (Yc (Yj rfl (fun h3=>?_) (fun h3=>?_))))))))) <;> simp only [NM] at h3
 ·refine Ze (Yq rfl (Yc (Yi (⟨_,ZL rfl,?_⟩))))
  exact congrArg (fun b=>V.s (S.int .i64 b)) (Za8 (by omega)).symm
 refine Yh (Ze (Yd (o':=129) rfl rfl rfl (Ym rfl rfl ZM rfl (Zj rfl (Yc (Yi (⟨_,ZL rfl,?_⟩)))))))
 exact congrArg (fun b=>V.s (S.int .i64 b)) (Za7 (by omega)).symm
theorem wT (s:Int):WR AM 64 [.s (.int .i64 s)] [] (fun v _ _=>v=.s (.int .i64 (Xz s))):=by
 refine YJ (a:=a64) rfl rfl (YI _) (ZQ rfl) (m:=0) rfl (Ze (Yq rfl (Yc (Ye (Ze (Zj rfl (Yc (Yk (Ze (Zr rfl (Zk rfl (Yc (Yj rfl (fun h4=>?_) (fun h4=>?_)))))))))))))) <;> simp only [NM] at h4
 ·refine Ze (Yq rfl (Yc (Yi (⟨_,ZL rfl,?_⟩))))
  refine ZJ ?_
  unfold Xz
  repeat' split
  all_goals omega
 refine Ze (Zr rfl (Zk rfl (Yc (Yj rfl (fun h5=>?_) (fun h5=>?_))))) <;> simp only [NM] at h5
 ·refine Ze (Yq rfl (Yc (Yi (⟨_,ZL rfl,?_⟩))))
  refine ZJ ?_
  unfold Xz
  repeat' split
  all_goals omega
 refine Ze (Zr rfl (Zk rfl (Yc (Yj rfl (fun h6=>?_) (fun h6=>?_))))) <;> simp only [NM] at h6
 ·refine Ze (Yq rfl (Yc (Yi (⟨_,ZL rfl,?_⟩))))
  refine ZJ ?_
  unfold Xz
  repeat' split
  all_goals omega
 refine Ze (Zr rfl (Zk rfl (Yc (Yj rfl (fun h7=>?_) (fun h7=>?_))))) <;> simp only [NM] at h7
 ·refine Ze (Yq rfl (Yc (Yi (⟨_,ZL rfl,?_⟩))))
  refine ZJ ?_
  unfold Xz
  repeat' split
  all_goals omega
 refine Ze (Zr rfl (Zk rfl (Yc (Yj rfl (fun h8=>?_) (fun h8=>?_))))) <;> simp only [NM] at h8
 ·refine Ze (Yq rfl (Yc (Yi (⟨_,ZL rfl,?_⟩))))
  refine ZJ ?_
  unfold Xz
  repeat' split
  all_goals omega
 refine Ze (Zr rfl (Zk rfl (Yc (Yj rfl (fun h9=>?_) (fun h9=>?_))))) <;> simp only [NM] at h9
 ·refine Ze (Yq rfl (Yc (Yi (⟨_,ZL rfl,?_⟩))))
  refine ZJ ?_
  unfold Xz
  repeat' split
  all_goals omega
 refine Yh (Ze (Yq rfl (Yc (Yi (⟨_,ZL rfl,?_⟩)))))
 refine ZJ ?_
 unfold Xz
 repeat' split
 all_goals omega
def upM (c s k:Int):Int:=if k<=1 then 0 else if k<=2 then Qr c s 1 else if k<=4 then Qr c s 1+Qr c s 2 else if k<=8 then Qr c s 1+Qr c s 2+Qr c s 4 else Vz c s
theorem yd {c s k:Int} (h:k=1\/k=2\/k=4\/k=8):upM c s (2*k)=upM c s k+Qr c s k:=by
 rcases h with rfl | rfl | rfl | rfl <;> simp [upM,Vz]
theorem upM_bd (c s k:Int):0<=upM c s k/\upM c s k<=15:=by
 have:=KL c s (k:=1) (by omega)
 have:=KL c s (k:=2) (by omega)
 have:=KL c s (k:=4) (by omega)
 have:=zQ c s
 unfold upM
 repeat' split
 all_goals omega
theorem zO (c s:Int) (hc:0<=c/\c<=15) (hs:0<=s/\s<=15):WR AM 62 [.s (.int .i64 c),.s (.int .i64 s)] [] (fun v _ _=>v=.s (.int .i64 (Vz c s))):=by
 refine YJ (a:=a62) rfl rfl (YI _) (ZQ rfl) (m:=0) rfl (Ze (Yq rfl (Zf (Yq rfl (Yc (Ye (Ze (Yq rfl (Yc (Yk (Xm (L':=[]) .slnil (Xp (fun m f _ L=>∃ (k:Int),(k=1\/k=2\/k=4\/k=8\/k=16)/\(m=16 - k.toNat)/\(f 0=.s (.int .i64 c))/\(f 1=.s (.int .i64 s))/\(f 5=.s (.int .i64 (upM c s k)))/\(f 6=.s (.int .i64 k))/\(L=[])) (fun m f nb L hI=>?_) (15) ⟨1,by omega,rfl,rfl,rfl,rfl,rfl,rfl⟩))))))))))))
 obtain ⟨k,hk,hm,k0,k1,k5,k6,rfl⟩:=hI
 refine Za 0 k0 (Za 1 k1 (Za 5 k5 (Za 6 k6 ?_)))
 have hu:=upM_bd c s k
 have hq:0<=c / k:=Int.ediv_nonneg (by omega) (by omega)
 have hq2:0<=s / k:=Int.ediv_nonneg (by omega) (by omega)
 refine Ye (Ze (Zj rfl (Zr rfl (Yc (Yj rfl (fun h10=>?_) (fun h10=>?_)))))) <;> simp only [NM] at h10
 ·refine Yh (Ye (Yk (Ze (Zj rfl (Zj rfl (Zu rfl rfl (Zv rfl rfl (Zr rfl (Zk rfl (Ys (t:=16) rfl (fun h11=>?_) (fun h11=>?_))))))))))) <;> simp only [NM] at h11
  ·refine Yb rfl (Zj rfl (Yb rfl (Zj rfl (Yb rfl (Zu rfl rfl (Yb rfl (Zv rfl rfl (Yb rfl (Zr rfl (Zq rfl (Yc (Yj rfl (fun h12=>?_) (fun h12=>?_))))))))))))) <;> simp only [NM] at h12
   ·refine Yf (Zj rfl (Zj rfl (Zs rfl rfl (Zj rfl (Yc (Yf (Zj rfl (Wn rfl rfl (by omega) (Zj rfl (Yc (⟨16 - (2*k).toNat,_,by omega,.slnil,2*k,by omega,rfl,rfl,rfl,?_,rfl,rfl⟩)))))))))))
    rw [yd (by omega),Qr]
    (rw [Za8 (by omega)]; rfl)
   refine Yh (Yf (Zj rfl (Wn rfl rfl (by omega) (Zj rfl (Yc (⟨16 - (2*k).toNat,_,by omega,.slnil,2*k,by omega,rfl,rfl,rfl,?_,rfl,rfl⟩))))))
   rw [yd (by omega),Qr]
   (rw [Za7 (by omega),Int.add_zero]; rfl)
  refine ZE rfl (ZC rfl (Zq rfl (Yc (ZB rfl (Yh (Yf (Zj rfl (Wn rfl rfl (by omega) (Zj rfl (Yc (⟨16 - (2*k).toNat,_,by omega,.slnil,2*k,by omega,rfl,rfl,rfl,?_,rfl,rfl⟩)))))))))))
  rw [yd (by omega),Qr]
  (rw [Za7 (by omega),Int.add_zero]; rfl)
 refine YX (Xe (Ze (Zj rfl (Zj rfl (Yc (Yi (⟨_,ZL rfl,?_⟩)))))))
 obtain rfl:k=16:=by omega
 rfl
theorem j6 (P m:Nat->Int) (ha:0<=m 0/\m 0 < 64) (ht:0<=m 1/\m 1 < 64):WR AM 58 [.agg 133 (ia P),.agg 3 (ia m)] [] (fun v _ _=>v=.s (.bool (XH P (m 0) (m 1) (m 2)))):=by
 refine YJ (a:=a58) rfl rfl (YI _) (ZQ rfl) (m:=0) rfl (Ze (YC rfl (YC rfl (Yq rfl (Zf (Zy rfl (Ym rfl rfl ZM rfl (Zy rfl (Zw rfl rfl rfl (Yp rfl rfl ZN (Yy (Yz rfl rfl rfl rfl .here (Yc (Ye (Ze (Yo rfl rfl ZM (Yt rfl (show RF AM 95 _ (.s (.bool (YZ (P (sqI (m 0))) (P (sqI (m 0)+1))))) from YG (TI (ovA (fun _=>0) 0 2 (dp P (sqI (m 0)))))) rfl rfl rfl (Yv (r:=.bool _) rfl rfl (Zk rfl (Ys (t:=15) rfl (fun h13=>?_) (fun h13=>?_))))))))))))))))))))) <;> simp only [NM] at h13
 ·refine ZE rfl (ZC rfl (Zq rfl (Yc (ZA rfl (Ze (Yq rfl (Zg rfl (ZI ?_))))))))
  simp only [YZ,ZaL,Zax] at *
  unfold XH
  rw [ZaP]
  simp only [Za2,ZaL,ZaF,Za5,Za3,Za6,Za4]
  first | omega | (split <;> omega)
 refine Yb rfl (Zz rfl (Yb rfl (Ym (x:=P (sqI (m 0)+1)) rfl rfl ZM (rfl) (Yb rfl (Yd (o':=128) rfl rfl rfl (Yb rfl (Ym rfl rfl ZO rfl (Yb rfl (Zr rfl (Zq rfl (Yc (Yj rfl (fun h14=>?_) (fun h14=>?_))))))))))))) <;> simp only [NM] at h14
 ·refine Ze (Yq rfl (Zg rfl (ZI ?_)))
  simp only [YZ,ZaL,Zax] at *
  unfold XH
  rw [ZaP]
  simp only [Za2,ZaL,ZaF,Za5,Za3,Za6,Za4]
  first | omega | (split <;> omega)
 refine Yh (Ze (Zy rfl (Ym (x:=P (sqI (m 0))) rfl rfl ZM (rfl) (Zr rfl (Zk rfl (Ys (t:=25) rfl (fun h15=>?_) (fun h15=>?_))))))) <;> simp only [NM] at h15
 ·refine Yb rfl (Zz rfl (Yb rfl (Ym (x:=P (sqI (m 0)+1)) rfl rfl ZM (rfl) (Yb rfl (Zr rfl (Yb rfl (Zk rfl (Ys (t:=29) rfl (fun h16=>?_) (fun h16=>?_))))))))) <;> simp only [NM] at h16
  ·refine Yb rfl (Zz rfl (Yb rfl (Ym rfl rfl ZN rfl (Yb rfl (Zu rfl rfl (Yb rfl (Zr rfl (Yb rfl (Zq rfl (Yb rfl (Zk rfl (Ys (t:=35) rfl (fun h17=>?_) (fun h17=>?_))))))))))))) <;> simp only [NM] at h17
   ·refine ZE rfl (YH rfl (YH rfl (YH rfl (YH rfl (ZC rfl (Yb rfl (Zq rfl (Zq rfl (Zk rfl (Yc (Ye (Ze (Zk rfl (Yc (ZA rfl (Ze (Yd (o':=2) rfl rfl rfl (Ym rfl rfl ZN rfl (Zr rfl (Zk rfl (Ys (t:=51) rfl (fun h18=>?_) (fun h18=>?_)))))))))))))))))))))) <;> simp only [NM] at h18
    ·refine Yb rfl (Yd (o':=2) rfl rfl rfl (Yb rfl (Ym rfl rfl ZN rfl (Yb rfl (Zr rfl (Zq rfl (Zk rfl (Zg rfl (ZI ?_)))))))))
     simp only [YZ,ZaL,Zax] at *
     unfold XH
     rw [ZaP]
     simp only [Za2,ZaL,ZaF,Za5,Za3,Za6,Za4]
     first | omega | (split <;> omega)
    refine ZD rfl (ZC rfl (Zq rfl (Zk rfl (Zg rfl (ZI ?_)))))
    simp only [YZ,ZaL,Zax] at *
    unfold XH
    rw [ZaP]
    simp only [Za2,ZaL,ZaF,Za5,Za3,Za6,Za4]
    first | omega | (split <;> omega)
   refine Yb rfl (Zz rfl (Yb rfl (Ym (x:=P (sqI (m 0)+1)) rfl rfl ZM (rfl) (Yb rfl (Zr rfl (Yb rfl (Zk rfl (Ys (t:=39) rfl (fun h19=>?_) (fun h19=>?_))))))))) <;> simp only [NM] at h19
   ·refine Yb rfl (Zz rfl (Yb rfl (Ym rfl rfl ZN rfl (Yb rfl (Zu rfl rfl (Yb rfl (Zr rfl (Yb rfl (Zq rfl (Yb rfl (Zq rfl (Zq rfl (Zk rfl (Yc (Ye (Ze (Zk rfl (Yc (Yj rfl (fun h20=>?_) (fun h20=>?_)))))))))))))))))))) <;> simp only [NM] at h20
    ·refine Ze (Yd (o':=2) rfl rfl rfl (Ym rfl rfl ZN rfl (Zr rfl (Zk rfl (Ys (t:=51) rfl (fun h21=>?_) (fun h21=>?_)))))) <;> simp only [NM] at h21
     ·refine Yb rfl (Yd (o':=2) rfl rfl rfl (Yb rfl (Ym rfl rfl ZN rfl (Yb rfl (Zr rfl (Zq rfl (Zk rfl (Zg rfl (ZI ?_)))))))))
      simp only [YZ,ZaL,Zax] at *
      unfold XH
      rw [ZaP]
      simp only [Za2,ZaL,ZaF,Za5,Za3,Za6,Za4]
      first | omega | (split <;> omega)
     refine ZD rfl (ZC rfl (Zq rfl (Zk rfl (Zg rfl (ZI ?_)))))
     simp only [YZ,ZaL,Zax] at *
     unfold XH
     rw [ZaP]
     simp only [Za2,ZaL,ZaF,Za5,Za3,Za6,Za4]
     first | omega | (split <;> omega)
    refine Yh (Ze (Yd (o':=2) rfl rfl rfl (Ym rfl rfl ZN rfl (Zr rfl (Zk rfl (Zg rfl (ZI ?_)))))))
    simp only [YZ,ZaL,Zax] at *
    unfold XH
    rw [ZaP]
    simp only [Za2,ZaL,ZaF,Za5,Za3,Za6,Za4]
    first | omega | (split <;> omega)
   refine ZE rfl (Yb rfl (Zq rfl (Yb rfl (Zq rfl (Zq rfl (Zk rfl (Yc (Ye (Ze (Zk rfl (Yc (ZB rfl (Yh (Ze (Yd (o':=2) rfl rfl rfl (Ym rfl rfl ZN rfl (Zr rfl (Zk rfl (Zg rfl (ZI ?_))))))))))))))))))))
   simp only [YZ,ZaL,Zax] at *
   unfold XH
   rw [ZaP]
   simp only [Za2,ZaL,ZaF,Za5,Za3,Za6,Za4]
   first | omega | (split <;> omega)
  refine ZE rfl (Yb rfl (Zq rfl (Yb rfl (Zk rfl (Yb rfl (Zz rfl (Yb rfl (Ym (x:=P (sqI (m 0)+1)) rfl rfl ZM (rfl) (Yb rfl (Zr rfl (Yb rfl (Zk rfl (Ys (t:=39) rfl (fun h22=>?_) (fun h22=>?_)))))))))))))) <;> simp only [NM] at h22
  ·refine Yb rfl (Zz rfl (Yb rfl (Ym rfl rfl ZN rfl (Yb rfl (Zu rfl rfl (Yb rfl (Zr rfl (Yb rfl (Zq rfl (Yb rfl (Zq rfl (Zq rfl (Zk rfl (Yc (Ye (Ze (Zk rfl (Yc (Yj rfl (fun h23=>?_) (fun h23=>?_)))))))))))))))))))) <;> simp only [NM] at h23
   ·refine Ze (Yd (o':=2) rfl rfl rfl (Ym rfl rfl ZN rfl (Zr rfl (Zk rfl (Ys (t:=51) rfl (fun h24=>?_) (fun h24=>?_)))))) <;> simp only [NM] at h24
    ·refine Yb rfl (Yd (o':=2) rfl rfl rfl (Yb rfl (Ym rfl rfl ZN rfl (Yb rfl (Zr rfl (Zq rfl (Zk rfl (Zg rfl (ZI ?_)))))))))
     simp only [YZ,ZaL,Zax] at *
     unfold XH
     rw [ZaP]
     simp only [Za2,ZaL,ZaF,Za5,Za3,Za6,Za4]
     first | omega | (split <;> omega)
    refine ZD rfl (ZC rfl (Zq rfl (Zk rfl (Zg rfl (ZI ?_)))))
    simp only [YZ,ZaL,Zax] at *
    unfold XH
    rw [ZaP]
    simp only [Za2,ZaL,ZaF,Za5,Za3,Za6,Za4]
    first | omega | (split <;> omega)
   refine Yh (Ze (Yd (o':=2) rfl rfl rfl (Ym rfl rfl ZN rfl (Zr rfl (Zk rfl (Zg rfl (ZI ?_)))))))
   simp only [YZ,ZaL,Zax] at *
   unfold XH
   rw [ZaP]
   simp only [Za2,ZaL,ZaF,Za5,Za3,Za6,Za4]
   first | omega | (split <;> omega)
  refine ZE rfl (Yb rfl (Zq rfl (Yb rfl (Zq rfl (Zq rfl (Zk rfl (Yc (Ye (Ze (Zk rfl (Yc (ZB rfl (Yh (Ze (Yd (o':=2) rfl rfl rfl (Ym rfl rfl ZN rfl (Zr rfl (Zk rfl (Zg rfl (ZI ?_))))))))))))))))))))
  simp only [YZ,ZaL,Zax] at *
  unfold XH
  rw [ZaP]
  simp only [Za2,ZaL,ZaF,Za5,Za3,Za6,Za4]
  first | omega | (split <;> omega)
 refine ZE rfl (YH rfl (YH rfl (YH rfl (YH rfl (ZD rfl (YH rfl (YH rfl (YH rfl (YH rfl (YH rfl (YH rfl (YH rfl (YH rfl (YH rfl (ZC rfl (Zq rfl (Zk rfl (Yc (Ye (Ze (Zk rfl (Yc (ZB rfl (Yh (Ze (Yd (o':=2) rfl rfl rfl (Ym rfl rfl ZN rfl (Zr rfl (Zk rfl ?_)))))))))))))))))))))))))))))
 refine Zg rfl (ZI ?_)
 simp only [YZ,ZaL,Zax] at *
 unfold XH
 rw [ZaP]
 simp only [Za2,ZaL,ZaF,Za5,Za3,Za6,Za4]
 first | omega | (split <;> omega)
theorem pV (P m:Nat->Int) (ha:0<=m 0/\m 0 < 64) (ht:0<=m 1/\m 1 < 64):WR AM 59 [.agg 133 (ia P),.agg 3 (ia m)] [] (fun v _ _=>v=.s (.bool (decide (P (sqI (m 0))=1/\m 1 % 8≠m 0 % 8/\m 1=P 130/\YT P (m 1)=true)))):=by
 refine YJ (a:=a59) rfl rfl (YI _) (ZQ rfl) (m:=0) rfl (Ze (YC rfl (YC rfl (Yq rfl (Zf (Zy rfl (Ym rfl rfl ZM rfl (Zy rfl (Zw rfl rfl rfl (Yd rfl rfl rfl (Ym (x:=P (sqI (m 0))) rfl rfl ZN (rfl) (Zr rfl (Zk rfl (Ys (t:=12) rfl (fun h25=>?_) (fun h25=>?_))))))))))))))) <;> simp only [NM] at h25
 ·refine Yb rfl (Zy rfl (Yb rfl (Ym (x:=m 0) rfl rfl ZM (rfl) (Yb rfl (Zv rfl rfl (Yb rfl (Zz rfl (Yb rfl (Ym (x:=m 1) rfl rfl ZM (rfl) (Yb rfl (Zv rfl rfl (Yb rfl (Zr rfl (Zq rfl (Zk rfl (Ys (t:=21) rfl (fun h26=>?_) (fun h26=>?_))))))))))))))))) <;> simp only [NM] at h26
  ·refine Yb rfl (Zz rfl (Yb rfl (Ym (x:=m 1) rfl rfl ZM (rfl) (Yb rfl (Yd (o':=130) rfl rfl rfl (Yb rfl (Ym (x:=P 130) rfl rfl ZN (rfl) (Yb rfl (Zr rfl (Zq rfl (Zk rfl (Ys (t:=28) rfl (fun h27=>?_) (fun h27=>?_))))))))))))) <;> simp only [NM] at h27
   ·refine Yb rfl (Zz rfl (Yb rfl (Ym rfl rfl ZM rfl (Yb rfl (Zy rfl (Yb rfl (Zw rfl rfl rfl (Yb rfl (Yp rfl rfl ZN (Yb rfl (YB rfl .nil (Yb rfl (Yw rfl rfl (Zq rfl (Zk rfl (Zg rfl (ZI ?_)))))))))))))))))
    obtain ⟨e,he⟩:∃ e,e=YT P (m 1):=⟨_,rfl⟩
    (show YT P (m 1)=_; rw [<- he]; cases e)
    all_goals rw [ZaP]
    all_goals simp only [Za2,ZaL,ZaF,Za5,Za3,Za6,Za4,and_true,and_false,not_false_eq_true]
    all_goals omega
   refine ZE rfl (ZD rfl (ZC rfl (Zq rfl (Zk rfl (Zg rfl (ZI ?_))))))
   obtain ⟨e,he⟩:∃ e,e=YT P (m 1):=⟨_,rfl⟩
   rw [<- he]
   all_goals rw [ZaP]
   all_goals simp only [Za2,ZaL,ZaF,Za5,Za3,Za6,Za4,and_true,and_false,not_false_eq_true]
   all_goals omega
  refine ZE rfl (ZC rfl (Zq rfl (Zk rfl (ZE rfl (ZD rfl (ZC rfl (Zq rfl (Zk rfl (Zg rfl (ZI ?_))))))))))
  obtain ⟨e,he⟩:∃ e,e=YT P (m 1):=⟨_,rfl⟩
  rw [<- he]
  all_goals rw [ZaP]
  all_goals simp only [Za2,ZaL,ZaF,Za5,Za3,Za6,Za4,and_true,and_false,not_false_eq_true]
  all_goals omega
 refine ZE rfl (ZD rfl (ZC rfl (Zq rfl (Zk rfl (ZE rfl (ZC rfl (Zq rfl (Zk rfl (ZE rfl (ZD rfl (ZC rfl (Zq rfl (Zk rfl (Zg rfl (ZI ?_)))))))))))))))
 obtain ⟨e,he⟩:∃ e,e=YT P (m 1):=⟨_,rfl⟩
 rw [<- he]
 all_goals rw [ZaP]
 all_goals simp only [Za2,ZaL,ZaF,Za5,Za3,Za6,Za4,and_true,and_false,not_false_eq_true]
 all_goals omega
theorem rq (X m:Nat->Int) (hc:X 1=0\/X 1=1) (ha:0<=m 0/\m 0 < 64) (ht:0<=m 1/\m 1 < 64):WR AM 65 [.agg 2 (ia X),.agg 3 (ia m)] [] (fun v _ _=>v=.s (.bool (Vc (X 0) (m 0) (m 1) (X 1)))):=by
 refine YJ (a:=a65) rfl rfl (YI _) (ZQ rfl) (m:=0) rfl (Ze (YC rfl (YC rfl (Yq rfl (Yc (Ye (Ze (Zy rfl (Ym rfl rfl ZN rfl (Zr rfl (Zk rfl (Ys (t:=8) rfl (fun h28=>?_) (fun h28=>?_))))))))))))) <;> simp only [NM] at h28
 ·refine ZE rfl (ZD rfl (ZC rfl (Zq rfl (Yc (ZA rfl (Ze (Yq rfl (Zg rfl (ZI ?_)))))))))
  unfold Vc
  rw [ZaP]
  simp only [Za2,ZaL,ZaF,Za5,Za3,Za6,Za4]
  omega
 refine Yb rfl (Zy rfl (Yb rfl (Ym rfl rfl ZM rfl (Yb rfl (Zv rfl rfl (Yb rfl (Zz rfl (Yb rfl (Ym rfl rfl ZM rfl (Yb rfl (Zv rfl rfl (Yb rfl (Zr rfl (Zq rfl (Yc (Yj rfl (fun h29=>?_) (fun h29=>?_))))))))))))))))) <;> simp only [NM] at h29
 ·refine Ze (Yq rfl (Zg rfl (ZI ?_)))
  unfold Vc
  rw [ZaP]
  simp only [Za2,ZaL,ZaF,Za5,Za3,Za6,Za4]
  omega
 refine Yh (Ze (Zz rfl (Ym rfl rfl ZN rfl (Zr rfl (Zk rfl (Ys (t:=20) rfl (fun h30=>?_) (fun h30=>?_))))))) <;> simp only [NM] at h30
 ·refine Yb rfl (Zy rfl (Yb rfl (Ym rfl rfl ZM rfl (Yb rfl (Zu rfl rfl (Yb rfl (Zr rfl (Zq rfl (Zk rfl (Ys (t:=26) rfl (fun h31=>?_) (fun h31=>?_))))))))))) <;> simp only [NM] at h31
  ·refine Yb rfl (Zz rfl (Yb rfl (Ym rfl rfl ZM rfl (Yb rfl (Zu rfl rfl (Yb rfl (Zr rfl (Zq rfl (Zk rfl (Ys (t:=32) rfl (fun h32=>?_) (fun h32=>?_))))))))))) <;> simp only [NM] at h32
   ·refine ZE rfl (YH rfl (YH rfl (YH rfl (YH rfl (ZD rfl (YH rfl (YH rfl (YH rfl (YH rfl (ZC rfl (Zq rfl (Zk rfl (Zg rfl (ZI ?_))))))))))))))
    unfold Vc
    rw [ZaP]
    simp only [Za2,ZaL,ZaF,Za5,Za3,Za6,Za4]
    omega
   refine Yb rfl (Zz rfl (Yb rfl (Ym rfl rfl ZN rfl (Yb rfl (Zr rfl (Yb rfl (Zk rfl (Ys (t:=36) rfl (fun h33=>?_) (fun h33=>?_))))))))) <;> simp only [NM] at h33
   ·refine Yb rfl (Zy rfl (Yb rfl (Ym rfl rfl ZM rfl (Yb rfl (Zu rfl rfl (Yb rfl (Zr rfl (Yb rfl (Zq rfl (Yb rfl (Zk rfl (Ys (t:=42) rfl (fun h34=>?_) (fun h34=>?_))))))))))))) <;> simp only [NM] at h34
    ·refine Yb rfl (Zz rfl (Yb rfl (Ym rfl rfl ZM rfl (Yb rfl (Zu rfl rfl (Yb rfl (Zr rfl (Yb rfl (Zq rfl (Zq rfl (Zk rfl (Zg rfl (ZI ?_)))))))))))))
     unfold Vc
     rw [ZaP]
     simp only [Za2,ZaL,ZaF,Za5,Za3,Za6,Za4]
     omega
    refine ZE rfl (Yb rfl (Zq rfl (Zq rfl (Zk rfl (Zg rfl (ZI ?_))))))
    unfold Vc
    rw [ZaP]
    simp only [Za2,ZaL,ZaF,Za5,Za3,Za6,Za4]
    omega
   refine ZE rfl (Yb rfl (Zq rfl (Yb rfl (Zk rfl (ZE rfl (Yb rfl (Zq rfl (Zq rfl (Zk rfl (Zg rfl (ZI ?_)))))))))))
   unfold Vc
   rw [ZaP]
   simp only [Za2,ZaL,ZaF,Za5,Za3,Za6,Za4]
   omega
  refine ZE rfl (Zq rfl (Zk rfl (Yb rfl (Zz rfl (Yb rfl (Ym rfl rfl ZN rfl (Yb rfl (Zr rfl (Yb rfl (Zk rfl (Ys (t:=36) rfl (fun h35=>?_) (fun h35=>?_)))))))))))) <;> simp only [NM] at h35
  ·refine Yb rfl (Zy rfl (Yb rfl (Ym rfl rfl ZM rfl (Yb rfl (Zu rfl rfl (Yb rfl (Zr rfl (Yb rfl (Zq rfl (Yb rfl (Zk rfl (Ys (t:=42) rfl (fun h36=>?_) (fun h36=>?_))))))))))))) <;> simp only [NM] at h36
   ·refine Yb rfl (Zz rfl (Yb rfl (Ym rfl rfl ZM rfl (Yb rfl (Zu rfl rfl (Yb rfl (Zr rfl (Yb rfl (Zq rfl (Zq rfl (Zk rfl (Zg rfl (ZI ?_)))))))))))))
    unfold Vc
    rw [ZaP]
    simp only [Za2,ZaL,ZaF,Za5,Za3,Za6,Za4]
    omega
   refine ZE rfl (Yb rfl (Zq rfl (Zq rfl (Zk rfl (Zg rfl (ZI ?_))))))
   unfold Vc
   rw [ZaP]
   simp only [Za2,ZaL,ZaF,Za5,Za3,Za6,Za4]
   omega
  refine ZE rfl (Yb rfl (Zq rfl (Yb rfl (Zk rfl (ZE rfl (Yb rfl (Zq rfl (Zq rfl (Zk rfl (Zg rfl (ZI ?_)))))))))))
  unfold Vc
  rw [ZaP]
  simp only [Za2,ZaL,ZaF,Za5,Za3,Za6,Za4]
  omega
 refine ZE rfl (Zq rfl (Zk rfl (ZE rfl (Zq rfl (Zk rfl (Yb rfl (Zz rfl (Yb rfl (Ym rfl rfl ZN rfl (Yb rfl (Zr rfl (Yb rfl (Zk rfl (Ys (t:=36) rfl (fun h37=>?_) (fun h37=>?_))))))))))))))) <;> simp only [NM] at h37
 ·refine Yb rfl (Zy rfl (Yb rfl (Ym rfl rfl ZM rfl (Yb rfl (Zu rfl rfl (Yb rfl (Zr rfl (Yb rfl (Zq rfl (Yb rfl (Zk rfl (Ys (t:=42) rfl (fun h38=>?_) (fun h38=>?_))))))))))))) <;> simp only [NM] at h38
  ·refine Yb rfl (Zz rfl (Yb rfl (Ym rfl rfl ZM rfl (Yb rfl (Zu rfl rfl (Yb rfl (Zr rfl (Yb rfl (Zq rfl (Zq rfl (Zk rfl (Zg rfl (ZI ?_)))))))))))))
   unfold Vc
   rw [ZaP]
   simp only [Za2,ZaL,ZaF,Za5,Za3,Za6,Za4]
   omega
  refine ZE rfl (Yb rfl (Zq rfl (Zq rfl (Zk rfl (Zg rfl (ZI ?_))))))
  unfold Vc
  rw [ZaP]
  simp only [Za2,ZaL,ZaF,Za5,Za3,Za6,Za4]
  omega
 refine ZE rfl (Yb rfl (Zq rfl (Yb rfl (Zk rfl (ZE rfl (Yb rfl (Zq rfl (Zq rfl (Zk rfl (Zg rfl (ZI ?_)))))))))))
 unfold Vc
 rw [ZaP]
 simp only [Za2,ZaL,ZaF,Za5,Za3,Za6,Za4]
 omega
theorem zd {C:Int} (h:0<=C) (s:Int) (hs:s=1\/s=2\/s=4\/s=8):0<=C / s:=Int.ediv_nonneg h (by omega)
theorem qX (P m:Nat->Int) (hc:P (sqI (m 0)+1)=0\/P (sqI (m 0)+1)=1) (ha:0<=m 0/\m 0 < 64) (ht:0<=m 1/\m 1 < 64):WR AM 61 [.agg 133 (ia P),.agg 3 (ia m)] [] (fun v _ _=>v=.s (.int .i64 (Y0 (P (sqI (m 0))) (m 0) (m 1) (P (sqI (m 0)+1)) (Vb P)))):=by
 have hC:=TK P
 have d1:=zd hC.1 1 (by omega)
 have d2:=zd hC.1 2 (by omega)
 have d4:=zd hC.1 4 (by omega)
 have d8:=zd hC.1 8 (by omega)
 refine YJ (a:=a61) rfl rfl (YI _) (ZQ rfl) (m:=0) rfl (Ze (YC rfl (YC rfl (Yq rfl (Zf (Zy rfl (Ym rfl rfl ZM rfl (Zy rfl (Zw rfl rfl rfl (Yp rfl rfl ZN (Yy (Yz rfl rfl rfl rfl .here (Zf (Yq rfl (Yq rfl (Yq rfl (Yc (Ye (Ze (Zz rfl (Ym (x:=P (sqI (m 0)+1)) rfl rfl ZM (rfl) (Zr rfl (Yc (Yj rfl (fun h39=>?_) (fun h39=>?_))))))))))))))))))))))))) <;> simp only [NM] at h39
 ·refine Yf (Yq rfl (Yq rfl (Yq rfl (Yc (Ye (Ze (Zy rfl (Ym (x:=P (sqI (m 0))) rfl rfl ZM (rfl) (Zr rfl (Zk rfl (Ys (t:=20) rfl (fun h40=>?_) (fun h40=>?_)))))))))))) <;> simp only [NM] at h40
  ·refine ZE rfl (Zq rfl (Yc (ZA rfl (Ze (Yq rfl (Yc (Yi (⟨_,ZL rfl,?_⟩))))))))
   refine ZJ ?_
   rcases hc with hc | hc
   all_goals simp only [Y0,YS,hc,if_true,if_false,Int.reduceEq,Int.reduceMul,Int.reduceAdd]
   all_goals (repeat' split) <;> omega
  refine Yb rfl (Zy rfl (Yb rfl (Ym (x:=m 0) rfl rfl ZN (rfl) (Yb rfl (Zj rfl (Yb rfl (Zr rfl (Zq rfl (Yc (Yj rfl (fun h41=>?_) (fun h41=>?_))))))))))) <;> simp only [NM] at h41
  ·refine Ze (Yq rfl (Yc (Yi (⟨_,ZL rfl,?_⟩))))
   refine ZJ ?_
   rcases hc with hc | hc
   all_goals simp only [Y0,YS,hc,if_true,if_false,Int.reduceEq,Int.reduceMul,Int.reduceAdd]
   all_goals (repeat' split) <;> omega
  refine Yh (Ye (Ze (Zz rfl (Ym (x:=m 1) rfl rfl ZN (rfl) (Zj rfl (Zs rfl rfl (Zr rfl (Zk rfl (Ys (t:=31) rfl (fun h42=>?_) (fun h42=>?_)))))))))) <;> simp only [NM] at h42
  ·refine Yb rfl (Yo rfl rfl ZO (Yb rfl (Yt rfl (YG (VQ _)) rfl rfl rfl (Yb rfl (Zj rfl (Yb rfl (Zu rfl rfl (Yb rfl (Zv rfl rfl (Yb rfl (Zr rfl (Zq rfl (Yc (Yj rfl (fun h43=>?_) (fun h43=>?_))))))))))))))) <;> simp only [NM] at h43
   ·refine Ze (Yq rfl (Yc (Yi (⟨_,ZL rfl,?_⟩))))
    refine ZJ ?_
    rcases hc with hc | hc
    all_goals simp only [Y0,YS,hc,if_true,if_false,Int.reduceEq,Int.reduceMul,Int.reduceAdd]
    all_goals (repeat' split) <;> omega
   refine Yh (Ye (Ze (Zz rfl (Ym (x:=m 1) rfl rfl ZN (rfl) (Zj rfl (Zt rfl rfl (Zr rfl (Zk rfl (Ys (t:=44) rfl (fun h44=>?_) (fun h44=>?_)))))))))) <;> simp only [NM] at h44
   ·refine Yb rfl (Yo rfl rfl ZO (Yb rfl (Yt rfl (YG (VQ _)) rfl rfl rfl (Yb rfl (Zj rfl (Yb rfl (Zu rfl rfl (Yb rfl (Zv rfl rfl (Yb rfl (Zr rfl (Zq rfl (Yc (Yj rfl (fun h45=>?_) (fun h45=>?_))))))))))))))) <;> simp only [NM] at h45
    ·refine Ze (Yq rfl (Yc (Yi (⟨_,ZL rfl,?_⟩))))
     refine ZJ ?_
     rcases hc with hc | hc
     all_goals simp only [Y0,YS,hc,if_true,if_false,Int.reduceEq,Int.reduceMul,Int.reduceAdd]
     all_goals (repeat' split) <;> omega
    refine Yh (Ze (Yq rfl (Yc (Yi (⟨_,ZL rfl,?_⟩)))))
    refine ZJ ?_
    rcases hc with hc | hc
    all_goals simp only [Y0,YS,hc,if_true,if_false,Int.reduceEq,Int.reduceMul,Int.reduceAdd]
    all_goals (repeat' split) <;> omega
   refine ZE rfl (ZD rfl (Zq rfl (Yc (ZB rfl (Yh (Ze (Yq rfl (Yc (Yi (⟨_,ZL rfl,?_⟩))))))))))
   refine ZJ ?_
   rcases hc with hc | hc
   all_goals simp only [Y0,YS,hc,if_true,if_false,Int.reduceEq,Int.reduceMul,Int.reduceAdd]
   all_goals (repeat' split) <;> omega
  refine ZE rfl (ZD rfl (Zq rfl (Yc (ZB rfl (Yh (Ye (Ze (Zz rfl (Ym (x:=m 1) rfl rfl ZN (rfl) (Zj rfl (Zt rfl rfl (Zr rfl (Zk rfl (Ys (t:=44) rfl (fun h46=>?_) (fun h46=>?_))))))))))))))) <;> simp only [NM] at h46
  ·refine Yb rfl (Yo rfl rfl ZO (Yb rfl (Yt rfl (YG (VQ _)) rfl rfl rfl (Yb rfl (Zj rfl (Yb rfl (Zu rfl rfl (Yb rfl (Zv rfl rfl (Yb rfl (Zr rfl (Zq rfl (Yc (Yj rfl (fun h47=>?_) (fun h47=>?_))))))))))))))) <;> simp only [NM] at h47
   ·refine Ze (Yq rfl (Yc (Yi (⟨_,ZL rfl,?_⟩))))
    refine ZJ ?_
    rcases hc with hc | hc
    all_goals simp only [Y0,YS,hc,if_true,if_false,Int.reduceEq,Int.reduceMul,Int.reduceAdd]
    all_goals (repeat' split) <;> omega
   refine Yh (Ze (Yq rfl (Yc (Yi (⟨_,ZL rfl,?_⟩)))))
   refine ZJ ?_
   rcases hc with hc | hc
   all_goals simp only [Y0,YS,hc,if_true,if_false,Int.reduceEq,Int.reduceMul,Int.reduceAdd]
   all_goals (repeat' split) <;> omega
  refine ZE rfl (ZD rfl (Zq rfl (Yc (ZB rfl (Yh (Ze (Yq rfl (Yc (Yi (⟨_,ZL rfl,?_⟩))))))))))
  refine ZJ ?_
  rcases hc with hc | hc
  all_goals simp only [Y0,YS,hc,if_true,if_false,Int.reduceEq,Int.reduceMul,Int.reduceAdd]
  all_goals (repeat' split) <;> omega
 refine Yh (Ye (Ze (Zy rfl (Ym (x:=P (sqI (m 0))) rfl rfl ZM (rfl) (Zr rfl (Zk rfl (Ys (t:=20) rfl (fun h48=>?_) (fun h48=>?_)))))))) <;> simp only [NM] at h48
 ·refine ZE rfl (Zq rfl (Yc (ZA rfl (Ze (Yq rfl (Yc (Yi (⟨_,ZL rfl,?_⟩))))))))
  refine ZJ ?_
  rcases hc with hc | hc
  all_goals simp only [Y0,YS,hc,if_true,if_false,Int.reduceEq,Int.reduceMul,Int.reduceAdd]
  all_goals (repeat' split) <;> omega
 refine Yb rfl (Zy rfl (Yb rfl (Ym (x:=m 0) rfl rfl ZN (rfl) (Yb rfl (Zj rfl (Yb rfl (Zr rfl (Zq rfl (Yc (Yj rfl (fun h49=>?_) (fun h49=>?_))))))))))) <;> simp only [NM] at h49
 ·refine Ze (Yq rfl (Yc (Yi (⟨_,ZL rfl,?_⟩))))
  refine ZJ ?_
  rcases hc with hc | hc
  all_goals simp only [Y0,YS,hc,if_true,if_false,Int.reduceEq,Int.reduceMul,Int.reduceAdd]
  all_goals (repeat' split) <;> omega
 refine Yh (Ye (Ze (Zz rfl (Ym (x:=m 1) rfl rfl ZN (rfl) (Zj rfl (Zs rfl rfl (Zr rfl (Zk rfl (Ys (t:=31) rfl (fun h50=>?_) (fun h50=>?_)))))))))) <;> simp only [NM] at h50
 ·refine Yb rfl (Yo rfl rfl ZO (Yb rfl (Yt rfl (YG (VQ _)) rfl rfl rfl (Yb rfl (Zj rfl (Yb rfl (Zu rfl rfl (Yb rfl (Zv rfl rfl (Yb rfl (Zr rfl (Zq rfl (Yc (Yj rfl (fun h51=>?_) (fun h51=>?_))))))))))))))) <;> simp only [NM] at h51
  ·refine Ze (Yq rfl (Yc (Yi (⟨_,ZL rfl,?_⟩))))
   refine ZJ ?_
   rcases hc with hc | hc
   all_goals simp only [Y0,YS,hc,if_true,if_false,Int.reduceEq,Int.reduceMul,Int.reduceAdd]
   all_goals (repeat' split) <;> omega
  refine Yh (Ye (Ze (Zz rfl (Ym (x:=m 1) rfl rfl ZN (rfl) (Zj rfl (Zt rfl rfl (Zr rfl (Zk rfl (Ys (t:=44) rfl (fun h52=>?_) (fun h52=>?_)))))))))) <;> simp only [NM] at h52
  ·refine Yb rfl (Yo rfl rfl ZO (Yb rfl (Yt rfl (YG (VQ _)) rfl rfl rfl (Yb rfl (Zj rfl (Yb rfl (Zu rfl rfl (Yb rfl (Zv rfl rfl (Yb rfl (Zr rfl (Zq rfl (Yc (Yj rfl (fun h53=>?_) (fun h53=>?_))))))))))))))) <;> simp only [NM] at h53
   ·refine Ze (Yq rfl (Yc (Yi (⟨_,ZL rfl,?_⟩))))
    refine ZJ ?_
    rcases hc with hc | hc
    all_goals simp only [Y0,YS,hc,if_true,if_false,Int.reduceEq,Int.reduceMul,Int.reduceAdd]
    all_goals (repeat' split) <;> omega
   refine Yh (Ze (Yq rfl (Yc (Yi (⟨_,ZL rfl,?_⟩)))))
   refine ZJ ?_
   rcases hc with hc | hc
   all_goals simp only [Y0,YS,hc,if_true,if_false,Int.reduceEq,Int.reduceMul,Int.reduceAdd]
   all_goals (repeat' split) <;> omega
  refine ZE rfl (ZD rfl (Zq rfl (Yc (ZB rfl (Yh (Ze (Yq rfl (Yc (Yi (⟨_,ZL rfl,?_⟩))))))))))
  refine ZJ ?_
  rcases hc with hc | hc
  all_goals simp only [Y0,YS,hc,if_true,if_false,Int.reduceEq,Int.reduceMul,Int.reduceAdd]
  all_goals (repeat' split) <;> omega
 refine ZE rfl (ZD rfl (Zq rfl (Yc (ZB rfl (Yh (Ye (Ze (Zz rfl (Ym (x:=m 1) rfl rfl ZN (rfl) (Zj rfl (Zt rfl rfl (Zr rfl (Zk rfl (Ys (t:=44) rfl (fun h54=>?_) (fun h54=>?_))))))))))))))) <;> simp only [NM] at h54
 ·refine Yb rfl (Yo rfl rfl ZO (Yb rfl (Yt rfl (YG (VQ _)) rfl rfl rfl (Yb rfl (Zj rfl (Yb rfl (Zu rfl rfl (Yb rfl (Zv rfl rfl (Yb rfl (Zr rfl (Zq rfl (Yc (Yj rfl (fun h55=>?_) (fun h55=>?_))))))))))))))) <;> simp only [NM] at h55
  ·refine Ze (Yq rfl (Yc (Yi (⟨_,ZL rfl,?_⟩))))
   refine ZJ ?_
   rcases hc with hc | hc
   all_goals simp only [Y0,YS,hc,if_true,if_false,Int.reduceEq,Int.reduceMul,Int.reduceAdd]
   all_goals (repeat' split) <;> omega
  refine Yh (Ze (Yq rfl (Yc (Yi (⟨_,ZL rfl,?_⟩)))))
  refine ZJ ?_
  rcases hc with hc | hc
  all_goals simp only [Y0,YS,hc,if_true,if_false,Int.reduceEq,Int.reduceMul,Int.reduceAdd]
  all_goals (repeat' split) <;> omega
 refine ZE rfl (ZD rfl (Zq rfl (Yc (ZB rfl (Yh (Ze (Yq rfl (Yc (Yi (⟨_,ZL rfl,?_⟩))))))))))
 refine ZJ ?_
 rcases hc with hc | hc
 all_goals simp only [Y0,YS,hc,if_true,if_false,Int.reduceEq,Int.reduceMul,Int.reduceAdd]
 all_goals (repeat' split) <;> omega
theorem tC (P m:Nat->Int):WR AM 28 [.agg 133 (ia P),.agg 3 (ia m)] [] (fun v _ _=>v=.s (.int .i64 (if Wf P (m 0) (m 1) (m 2)=0 then Y7 P (P (sqI (m 0))) (m 0) (m 1) else -1))):=by
 refine YJ (a:=a28) rfl rfl (YI _) (ZQ rfl) (m:=0) rfl (Ze (YC rfl (YC rfl (Yq rfl (Yc (Ye (Ze (Zy rfl (Ym rfl rfl ZM rfl (Yt rfl (YG (zk _)) rfl rfl rfl (Yv (r:=.bool _) rfl rfl (Zk rfl (Ys (t:=10) rfl (fun h56=>?_) (fun h56=>?_)))))))))))))) <;> simp only [NM] at h56
 ·try simp only [isM,ZaL,Zax] at h56
  refine ZE rfl (Zq rfl (Zk rfl (ZE rfl (ZC rfl (Zq rfl (Zk rfl (ZE rfl (Zq rfl (Yc (ZA rfl (Ze (Yq rfl (Yc (Yi (⟨_,ZL rfl,?_⟩)))))))))))))))
  refine ZJ ?_
  (rw [UK (by omega)]; rfl)
 try simp only [isM,ZaL,Zax] at h56
 refine Yb rfl (Zz rfl (Yb rfl (Ym rfl rfl ZM rfl (Yb rfl (Yt rfl (YG (zk _)) rfl rfl rfl (Yb rfl (Yv (r:=.bool _) rfl rfl (Zq rfl (Zk rfl (Ys (t:=16) rfl (fun h57=>?_) (fun h57=>?_))))))))))) <;> simp only [NM] at h57
 ·try simp only [isM,ZaL,Zax] at h57
  refine ZE rfl (ZC rfl (Zq rfl (Zk rfl (ZE rfl (Zq rfl (Yc (ZA rfl (Ze (Yq rfl (Yc (Yi (⟨_,ZL rfl,?_⟩))))))))))))
  refine ZJ ?_
  (rw [UK (by omega)]; rfl)
 try simp only [isM,ZaL,Zax] at h57
 refine Yb rfl (Zy rfl (Yb rfl (Ym rfl rfl ZM rfl (Yb rfl (Zz rfl (Yb rfl (Ym rfl rfl ZM rfl (Yb rfl (Zr rfl (Zq rfl (Zk rfl (Ys (t:=23) rfl (fun h58=>?_) (fun h58=>?_))))))))))))) <;> simp only [NM] at h58
 ·refine ZE rfl (Zq rfl (Yc (ZA rfl (Ze (Yq rfl (Yc (Yi (⟨_,ZL rfl,?_⟩))))))))
  refine ZJ ?_
  (rw [UK (by omega)]; rfl)
 refine Yb rfl (Yo rfl rfl ZN (Yb rfl (Yo rfl rfl ZM (Yb rfl (Yt rfl (YG (j6 _ _ (by assumption) (by assumption))) rfl rfl rfl (Yb rfl (Yv (r:=.bool _) rfl rfl (Zq rfl (Yc (Yj rfl (fun h59=>?_) (fun h59=>?_))))))))))) <;> simp only [NM] at h59
 ·refine Ze (Yq rfl (Yc (Yi (⟨_,ZL rfl,?_⟩))))
  refine ZJ ?_
  (rw [Wy (by omega) (by assumption)]; rfl)
 refine Yh (Ze (Zz rfl (Ym rfl rfl ZM rfl (Zj rfl (Yc (WD (fun f n L=>(Wf P (m 0) (m 1) (m 2)=0)/\(0<=m 0/\m 0 < 64)/\(0<=m 1/\m 1 < 64)/\(f 2=.ptr 0 0 133)/\(f 3=.ptr 1 0 3)/\(f 4=.s (.int .i64 0))/\(f 5=.s (.int .i64 (atT P (P (sqI (m 0))) (m 0) (m 1))))/\(L=[(1,.sc .var 3 (ia m)),(0,.sc .var 133 (ia P))])/\(n=2)) ?_ (fun f nb L hI=>?_)))))))
 ·refine Ze (Yo rfl rfl ZN (Yo rfl rfl ZM (Yt rfl (YG (pV _ _ (by assumption) (by assumption))) rfl rfl rfl (Yc (Yj rfl (fun h60=>?_) (fun h60=>?_)))))) <;> simp only [NM] at h60
  ·refine Yf (Zy rfl (Ym rfl rfl ZM rfl (Zu rfl rfl (Wn rfl rfl (by omega) (Zz rfl (Ym rfl rfl ZM rfl (Zv rfl rfl (Zs rfl rfl (Zj rfl (Yc (⟨_,(.refl _),?_,by assumption,by assumption,rfl,rfl,rfl,?_,rfl,rfl⟩)))))))))))
   ·exact Vr (by omega) (by assumption)
   refine ZJ ?_
   unfold atT
   exact (Za8 (by assumption)).symm
  refine Yh (⟨_,(.refl _),?_,by assumption,by assumption,rfl,rfl,rfl,?_,rfl,rfl⟩)
  ·exact Vr (by omega) (by assumption)
  refine ZJ ?_
  unfold atT
  exact (Za7 (by assumption)).symm
 obtain ⟨ge,ha,ht,k2,k3,k4,k5,rfl,rfl⟩:=hI
 refine Za 2 k2 (Za 3 k3 (Za 4 k4 (Za 5 k5 ?_)))
 have hat:=xy (P:=P) (k:=P (sqI (m 0))) ha ht
 refine Ye (Ze (Zj rfl (Zy rfl (Zw rfl rfl rfl (Yp rfl rfl ZN (YB rfl .nil (Yw rfl rfl (Yc (Yj rfl (fun h61=>?_) (fun h61=>?_)))))))))) <;> simp only [NM] at h61
 ·refine Ze (Yq rfl (Yc (Yi (⟨_,ZL rfl,?_⟩))))
  refine ZJ ?_
  (rw [Za8 ge,Y7,show YT P (atT P (P (sqI (m 0))) (m 0) (m 1))=true from (by assumption)]; rfl)
 refine Yh (Ze (Zj rfl (Zj rfl (Yc (Yi (⟨_,ZL rfl,?_⟩))))))
 refine ZJ ?_
 (rw [Za8 ge,Y7,show YT P (atT P (P (sqI (m 0))) (m 0) (m 1))=false from (by assumption)]; rfl)
open Go Go.Am
def straightL:List (Int × Int):=[(1,0),(-1,0),(0,1),(0,-1)]
def slantL:List (Int × Int):=[(1,1),(1,-1),(-1,1),(-1,-1)]
def jumpL:List (Int × Int):=[(1,2),(2,1),(2,-1),(1,-2),(-1,-2),(-2,-1),(-2,1),(-1,2)]
def Vm (f r:Int):Nat->Int->List Int
 | 0,_=>[]
 | k+1,s=>if YR s f r=-1 then [] else YR s f r::Vm f r k (YR s f r)
def V8 (P:Nat->Int):List Int->List Int
 | []=>[]
 | t::l=>if YT P t=true then t::V8 P l else [t]
def X6 (P:Nat->Int) (s:Int) (ways:List (Int × Int)):List Int:=ways.flatMap fun w=>V8 P (Vm w.1 w.2 8 s)
def X4 (s:Int) (ways:List (Int × Int)):List Int:=(ways.map fun w=>YR s w.1 w.2).filter fun t=>t != -1
def Um (P:Nat->Int) (s k c:Int):List Int :=
 if c=0\/c=1 then
  if k=1 then X4 s [(-1,1 - 2*c),(1,1 - 2*c)]
  else if k=2 then X4 s jumpL
  else if k=6 then X4 s (straightL++slantL)
  else if k=4 then X6 P s straightL
  else if k=3 then X6 P s slantL
  else if k=5 then X6 P s (straightL++slantL)
  else []
 else []
def Wc (P:Nat->Int) (s:Int):List Int:=Um P s (P (sqI s)) (P (sqI s+1))
def Wt (P:Nat->Int) (s:Int):List Int:=if 0<=s/\s < 64 then K0 (Wc P s) else []
def XT (n:Int):Int:=if n < 0 then -n else n
def sgnM (n:Int):Int:=if n < 0 then -1 else if 0 < n then 1 else 0
def Uu (a b:Int):Int:=8*sgnM (b / 8 - a / 8)+sgnM (b % 8 - a % 8)
def U8 (a b:Int):Nat:=max (XT (b / 8 - a / 8)).toNat (XT (b % 8 - a % 8)).toNat
def Qa (P:Nat->Int) (a b:Int):Bool:=(List.range (U8 a b - 1)).all fun (j:Nat)=>YT P (a+Uu a b*((j:Int)+1))
def WK (a b:Int):Bool:=decide (b % 8 - a % 8=0\/b / 8 - a / 8=0)
def WH (a b:Int):Bool:=decide (XT (b % 8 - a % 8)=XT (b / 8 - a / 8))
def Jx (P:Nat->Int) (a b k c:Int):Bool :=
 if YZ k c=false\/a=b then false
 else if k=1 then decide (XT (b % 8 - a % 8)=1/\b / 8 - a / 8=1 - 2*c)
 else if k=2 then decide (XT (b % 8 - a % 8)*XT (b / 8 - a / 8)=2)
 else if k=6 then decide (XT (b % 8 - a % 8)<=1/\XT (b / 8 - a / 8)<=1)
 else if k=4 then WK a b&&Qa P a b
 else if k=3 then WH a b&&Qa P a b
 else (WK a b || WH a b)&&Qa P a b
def Xk (P:Nat->Int) (a b:Int):Bool:=Jx P a b (P (sqI a)) (P (sqI a+1))
def K3 (a b:Int):Int × Int:=(sgnM (b % 8 - a % 8),sgnM (b / 8 - a / 8))
def Di (a b:Int):List Int:=(List.range (U8 a b - 1)).map fun (j:Nat)=>a+Uu a b*((j:Int)+1)
def KA (f:Nat->Bool):Bool:=Xs 64 f
theorem Vu {f:Nat->Bool} (h:KA f=true) (x:Fin 64):f x.val=true:=by
 have:∀ n,Xs n f=true->∀ i,i < n->f i=true:=by
  intro n
  induction n with
  | zero=>intro _ i hi; omega
  | succ n ih =>
   intro h i hi
   simp only [Xs,ZaM] at h
   by_cases e:i=n
   ·subst e; exact h.2
   exact ih h.1 i (by omega)
 exact this 64 h x.val x.isLt
def jO:List Int->List Int->Bool
 | [],[]=>true
 | x::l,y::r=>decide (x=y)&&jO l r
 | _,_=>false
theorem us:∀ {l r:List Int},jO l r=true->l=r
 | [],[],_=>rfl
 | x::l,y::r,h=>by
  simp only [jO,ZaM,ZaL] at h
  rw [h.1,us h.2]
 | [],_::_,h=>by cases h
 | _::_,[],h=>by cases h
def R9 (b:Int):List Int->Bool
 | []=>false
 | x::l=>decide (b=x) || R9 b l
theorem Kk {b:Int}:∀ {l:List Int},R9 b l=decide (b∈l)
 | []=>by simp [R9]
 | x::l=>by simp only [R9,Kk (l:=l),ZaX,Bool.decide_or]
def prefL (b:Int):List Int->List Int
 | []=>[]
 | x::l=>if x=b then [] else x::prefL b l
def chk (a:Int) (w:Int × Int):List Int->List Int->Bool
 | _,[]=>true
 | pre,b::l=>(decide (a≠b)&&(decide ((K3 a b).1=w.1)&&decide ((K3 a b).2=w.2))&&(WK a b || WH a b))&&jO pre (Di a b)&&!R9 b pre&&chk a w (pre++[b]) l
theorem pz {a b:Int} {w:Int × Int}:∀ {r pre:List Int},chk a w pre r=true->b∈r->(a≠b/\K3 a b=w/\(WK a b || WH a b)=true)/\(b ∉ pre/\pre++r.takeWhile (fun t=>t != b)=Di a b)
 | [],_,_,h=>by cases h
 | x::r,pre,h,hm=>by
  simp only [chk,ZaM,ZaL,ZaK,Kk,Zax] at h
  obtain ⟨⟨⟨⟨⟨h1,h2,h3⟩,h4⟩,h5⟩,h6⟩,h7⟩:=h
  by_cases e:x=b
  ·subst e
   refine ⟨⟨h1,Prod.ext h2 h3,h4⟩,h6,?_⟩
   have:(x::r).takeWhile (fun t=>t != x)=[]:=by simp
   rw [this,ZaQ]
   exact us h5
  rcases ZaX.1 hm with e' | hm
  ·exact absurd e'.symm e
  obtain ⟨k1,k2,k3⟩:=pz h7 hm
  refine ⟨k1,fun h=>k2 (ZaC _ h),?_⟩
  have:(x::r).takeWhile (fun t=>t != b)=x::r.takeWhile (fun t=>t != b):=by simp [e]
  rw [this,<- k3,ZaJ]; rfl
def rayOK (a b:Int):Bool:=decide (a=b) || (!(WK a b || WH a b) || R9 b (Vm (K3 a b).1 (K3 a b).2 8 a))
theorem ray_all:(KA fun a=>KA fun b=>rayOK a b)=true:=by decide +kernel
theorem chk_all:(KA fun a=>(straightL++slantL).all fun w=>chk a w [] (Vm w.1 w.2 8 a))=true:=by decide +kernel
theorem ray_to (a b:Fin 64) (hn:(a.val:Int)≠b.val) (h:(WK a.val b.val || WH a.val b.val)=true):(b.val:Int)∈Vm (K3 a.val b.val).1 (K3 a.val b.val).2 8 a.val:=by
 have h1:=Vu (Vu ray_all a) b
 unfold rayOK at h1
 rw [ZaT hn,Bool.false_or,h,Bool.not_true,Bool.false_or,Kk] at h1
 exact of_decide_eq_true h1
theorem oc {a:Fin 64} {b:Int} {w:Int × Int} (hw:w∈straightL++slantL) (h:b∈Vm w.1 w.2 8 a.val):((a.val:Int)≠b/\K3 a.val b=w/\(WK a.val b || WH a.val b)=true)/\(Vm w.1 w.2 8 a.val).takeWhile (fun t=>t != b)=Di a.val b:=by
 have h2:=pz (ZaO.1 (Vu chk_all a) w hw) h
 exact ⟨h2.1,by simpa using h2.2.2⟩
def tD (a b:Int):Bool:=decide (a=b) || (WK a b == (decide (K3 a b∈straightL)&&(WK a b || WH a b))&&(WH a b == (decide (K3 a b∈slantL)&&(WK a b || WH a b))))
def E7 (a b:Int):Bool :=
 (R9 b (X4 a jumpL) == (decide (a≠b)&&decide (XT (b % 8 - a % 8)*XT (b / 8 - a / 8)=2))) &&
 (R9 b (X4 a (straightL++slantL)) == (decide (a≠b)&&(decide (XT (b % 8 - a % 8)<=1)&&decide (XT (b / 8 - a / 8)<=1)))) &&
 [0,1].all fun c=>R9 b (X4 a [(-1,1 - 2*c),(1,1 - 2*c)]) == (decide (a≠b)&&(decide (XT (b % 8 - a % 8)=1)&&decide (b / 8 - a / 8=1 - 2*c)))
theorem uo:(KA fun a=>KA fun b=>tD a b)=true:=by decide +kernel
theorem gO:(KA fun a=>KA fun b=>E7 a b)=true:=by decide +kernel
theorem gn (a b:Fin 64) (hn:(a.val:Int)≠b.val):WK a.val b.val=decide (K3 a.val b.val∈straightL/\(WK a.val b.val || WH a.val b.val)=true):=by
 have h:=Vu (Vu uo a) b
 unfold tD at h
 rw [ZaT hn,Bool.false_or,ZaM,Za2,Za2] at h
 rw [Bool.decide_and]
 exact h.1.trans (by simp)
theorem gj (a b:Fin 64) (hn:(a.val:Int)≠b.val):WH a.val b.val=decide (K3 a.val b.val∈slantL/\(WK a.val b.val || WH a.val b.val)=true):=by
 have h:=Vu (Vu uo a) b
 unfold tD at h
 rw [ZaT hn,Bool.false_or,ZaM,Za2,Za2] at h
 rw [Bool.decide_and]
 exact h.2.trans (by simp)
theorem wf (a b:Fin 64):E7 a.val b.val=true:=Vu (Vu gO a) b
theorem wO (a b:Fin 64) (c:Int) (hc:c∈[0,1]):decide ((b.val:Int)∈X4 a.val [(-1,1 - 2*c),(1,1 - 2*c)])=decide ((a.val:Int)≠b.val/\XT ((b.val:Int) % 8 - (a.val:Int) % 8)=1/\(b.val:Int) / 8 - (a.val:Int) / 8=1 - 2*c):=by
 have h:=wf a b
 unfold E7 at h
 rw [ZaM] at h
 have h:=ZaO.1 h.2 c hc
 rw [Za2,Kk] at h
 rw [h,Bool.decide_and,Bool.decide_and]
theorem qc (a b:Fin 64):decide ((b.val:Int)∈X4 a.val jumpL)=decide ((a.val:Int)≠b.val/\XT ((b.val:Int) % 8 - (a.val:Int) % 8)*XT ((b.val:Int) / 8 - (a.val:Int) / 8)=2):=by
 have h:=wf a b
 unfold E7 at h
 rw [ZaM,ZaM,Za2,Kk] at h
 rw [h.1.1,Bool.decide_and]
theorem qg (a b:Fin 64):decide ((b.val:Int)∈X4 a.val (straightL++slantL))=decide ((a.val:Int)≠b.val/\XT ((b.val:Int) % 8 - (a.val:Int) % 8)<=1/\XT ((b.val:Int) / 8 - (a.val:Int) / 8)<=1):=by
 have h:=wf a b
 unfold E7 at h
 rw [ZaM,ZaM,Za2,Za2,Kk,Kk] at h
 rw [h.1.2,Bool.decide_and,Bool.decide_and]
def zX:List Int->Bool
 | []=>true
 | x::l=>!R9 x l&&zX l
theorem Tj:∀ {l:List Int},zX l=true->l.Nodup
 | [],_=>.nil
 | x::l,h=>by
  simp only [zX,ZaM,ZaK,Kk,Zax] at h
  exact List.nodup_cons.2 ⟨h.1,Tj h.2⟩
theorem nod_all:(KA fun a=>zX (X4 a jumpL)&&zX (X4 a (straightL++slantL))&&([0,1].all fun c=>zX (X4 a [(-1,1 - 2*c),(1,1 - 2*c)]))&&zX ((straightL++slantL).flatMap fun w=>Vm w.1 w.2 8 a))=true:=by decide +kernel
theorem xB (a:Fin 64):(X4 a.val jumpL).Nodup∧(X4 a.val (straightL++slantL)).Nodup∧(∀ c∈[0,1],(X4 a.val [(-1,1 - 2*c),(1,1 - 2*c)]).Nodup)∧((straightL++slantL).flatMap fun w=>Vm w.1 w.2 8 a.val).Nodup:=by
 have h:=Vu nod_all a
 simp only [ZaM] at h
 exact ⟨Tj h.1.1.1,Tj h.1.1.2,fun c hc=>Tj (ZaO.1 h.1.2 c hc),Tj h.2⟩
theorem upto_mem {P:Nat->Int} {b:Int}:∀ {l:List Int},b∈V8 P l↔b∈l/\(l.takeWhile (fun t=>t != b)).all (fun t=>YT P t)=true
 | []=>by simp [V8]
 | t::l=>by
  unfold V8
  by_cases e:t=b
  ·subst e
   have h:(t::l).takeWhile (fun s=>s != t)=[]:=by simp
   rw [h]
   by_cases h:YT P t=true
   ·rw [Za8 h]; simp
   rw [Za7 h]; simp
  have h1:(t::l).takeWhile (fun s=>s != b)=t::l.takeWhile (fun s=>s != b):=by simp [e]
  rw [h1]
  by_cases h:YT P t=true
  ·rw [Za8 h,ZaX,ZaX,upto_mem,List.all_cons,h,Bool.true_and]
   have:b≠t:=Ne.symm e
   simp [this]
  rw [Za7 h,List.all_cons]
  have:b≠t:=Ne.symm e
  simp [this,h]
theorem T0 (P:Nat->Int):∀ l:List Int,List.Sublist (V8 P l) l
 | []=>.slnil
 | t::l=>by
  unfold V8
  by_cases h:YT P t=true
  ·rw [Za8 h]; exact (T0 P l).cons_cons _
  rw [Za7 h]; exact (List.nil_sublist l).cons_cons _
theorem jC {α β:Type} {f g:α->List β} (h:∀ x,List.Sublist (f x) (g x)):∀ l:List α,List.Sublist (l.flatMap f) (l.flatMap g)
 | []=>by simp
 | x::l=>by rw [Zbo,Zbo]; exact (h x).append (jC h l)
theorem oV {α β:Type} {f:α->List β} {l1 l2:List α} (h:List.Sublist l1 l2):List.Sublist (l1.flatMap f) (l2.flatMap f):=by
 induction h with
 | slnil=>exact .refl _
 | cons x _ ih=>rw [Zbo]; exact ih.trans (List.sublist_append_right _ _)
 | cons_cons x _ ih=>rw [Zbo,Zbo]; exact (List.Sublist.refl _).append ih
theorem Kx {a:Int} (h:0<=a/\a < 64):∃ x:Fin 64,(x.val:Int)=a:=⟨⟨a.toNat,by omega⟩,by simp; omega⟩
theorem Tg {P:Nat->Int} {s:Int} (hs:0<=s/\s < 64) {ways:List (Int × Int)} (hw:List.Sublist ways (straightL++slantL)):(X6 P s ways).Nodup:=by
 obtain ⟨x,rfl⟩:=Kx hs
 exact ((jC (fun w=>T0 P _) ways).trans (oV hw)).nodup (xB x).2.2.2
theorem xp {P:Nat->Int} {s:Int} (hs:0<=s/\s < 64):(Wc P s).Nodup:=by
 have hn:∀ k c,(Um P s k c).Nodup:=by
  intro k c
  unfold Um
  obtain ⟨x,hx⟩:=Kx hs
  have h:=xB x
  rw [hx] at h
  by_cases hc:c=0\/c=1
  ·rw [Za8 hc]
   have h3:=h.2.2.1 c (by rcases hc with rfl | rfl <;> simp)
   repeat' split
   ·exact h3
   ·exact h.1
   ·exact h.2.1
   ·exact Tg hs (List.sublist_append_left _ _)
   ·exact Tg hs (List.sublist_append_right _ _)
   ·exact Tg hs (.refl _)
   exact .nil
  rw [Za7 hc]; exact .nil
 exact hn _ _
theorem RY {P:Nat→Int} {a b:Int} (ha:0≤a∧a < 64) (hb:0≤b∧b < 64) {ways:List (Int × Int)} (hw:∀ w∈ways,w∈straightL++slantL) :
  b∈X6 P a ways↔a≠b/\K3 a b∈ways/\(WK a b || WH a b)=true/\Qa P a b=true:=by
 obtain ⟨x,rfl⟩:=Kx ha
 obtain ⟨y,rfl⟩:=Kx hb
 have ho:Qa P x.val y.val=(Di x.val y.val).all fun t=>YT P t:=by
  unfold Qa Di
  rw [List.all_map]; rfl
 unfold X6
 rw [List.mem_flatMap]
 constructor
 ·rintro ⟨w,hm,hu⟩
  obtain ⟨h1,h2⟩:=upto_mem.1 hu
  obtain ⟨⟨f1,f2,f3⟩,f4⟩:=oc (hw w hm) h1
  rw [f4,<- ho] at h2
  exact ⟨f1,by rw [f2]; exact hm,f3,h2⟩
 rintro ⟨h1,h2,h3,h4⟩
 have f1:=ray_to x y h1 h3
 obtain ⟨_,f4⟩:=oc (hw _ h2) f1
 exact ⟨_,h2,upto_mem.2 ⟨f1,by rw [f4,<- ho]; exact h4⟩⟩
theorem TS {P:Nat->Int} {a b:Int} (ha:0<=a/\a < 64) (hb:0<=b/\b < 64):b∈Wc P a↔Xk P a b=true:=by
 have hk:∀ k c,b∈Um P a k c↔Jx P a b k c=true:=by
  intro k c
  unfold Um Jx
  by_cases hab:a=b
  ·have hor:YZ k c=false\/a=b:=.inr hab
   rw [Za8 hor]
   clear hor
   subst hab
   have e1:=wO; have e2:=qc; have e3:=qg
   obtain ⟨x,hx⟩:=Kx ha
   have g2:=e2 x x; have g3:=e3 x x
   rw [hx] at g2 g3
   simp only [ne_eq,not_true_eq_false,false_and,decide_false,Zax] at g2 g3
   simp only [ZaF,Za4]
   by_cases hc:c=0\/c=1
   ·rw [Za8 hc]
    have g1:=e1 x x c (by rcases hc with rfl | rfl <;> simp)
    rw [hx] at g1
    simp only [ne_eq,not_true_eq_false,false_and,decide_false,Zax] at g1
    have ga:∀ ways:List (Int × Int),(∀ w∈ways,w∈straightL++slantL)→a ∉ X6 P a ways:=fun ways hw h=>((RY ha ha hw).1 h).1 rfl
    repeat' split
    ·exact g1
    ·exact g2
    ·exact g3
    ·exact ga _ fun w h=>ZaC _ h
    ·exact ga _ fun w h=>Zaz _ h
    ·exact ga _ fun w h=>h
    simp
   rw [Za7 hc]; simp
  obtain ⟨x,hx⟩:=Kx ha
  obtain ⟨y,hy⟩:=Kx hb
  have hxy:(x.val:Int)≠y.val:=by rw [hx,hy]; exact hab
  by_cases hc:c=0\/c=1
  ·rw [Za8 hc]
   by_cases hm:YZ k c=true
   ·have hn:¬ (YZ k c=false\/a=b):=by
     rintro (h | h)
     ·rw [hm] at h; cases h
     exact hab h
    rw [Za7 hn]
    have hk:1<=k/\k<=6:=by
     unfold YZ at hm
     simp only [ZaL] at hm
     omega
    have g1:=wO x y c (by rcases hc with rfl | rfl <;> simp)
    have g2:=qc x y
    have g3:=qg x y
    have g4:=gn x y hxy
    have g5:=gj x y hxy
    rw [hx,hy] at g1 g2 g3 g4 g5
    simp only [ne_eq,hab,not_false_eq_true,true_and] at g1 g2 g3
    by_cases k1:k=1
    ·rw [Za8 k1,Za8 k1,<- g1,ZaL]
    rw [Za7 k1,Za7 k1]
    by_cases k2:k=2
    ·rw [Za8 k2,Za8 k2,<- g2,ZaL]
    rw [Za7 k2,Za7 k2]
    by_cases k6:k=6
    ·rw [Za8 k6,Za8 k6,<- g3,ZaL]
    rw [Za7 k6,Za7 k6]
    by_cases k4:k=4
    ·rw [Za8 k4,Za8 k4,RY ha hb fun w h=>ZaC _ h,ZaM]
     constructor
     ·rintro ⟨_,h1,h2,h3⟩
      exact ⟨g4.trans (ZaV ⟨h1,h2⟩),h3⟩
     rintro ⟨h1,h2⟩
     obtain ⟨h3,h4⟩:=of_decide_eq_true (g4.symm.trans h1)
     exact ⟨hab,h3,h4,h2⟩
    rw [Za7 k4,Za7 k4]
    by_cases k3:k=3
    ·rw [Za8 k3,Za8 k3,RY ha hb fun w h=>Zaz _ h,ZaM]
     constructor
     ·rintro ⟨_,h1,h2,h3⟩
      exact ⟨g5.trans (ZaV ⟨h1,h2⟩),h3⟩
     rintro ⟨h1,h2⟩
     obtain ⟨h3,h4⟩:=of_decide_eq_true (g5.symm.trans h1)
     exact ⟨hab,h3,h4,h2⟩
    rw [Za7 k3,Za7 k3,Za8 (show k=5 by omega),RY ha hb fun w h=>h,ZaM]
    simp only [ne_eq,hab,not_false_eq_true,true_and]
    constructor
    ·rintro ⟨_,h⟩; exact h
    rintro ⟨h1,h2⟩
    refine ⟨?_,h1,h2⟩
    rw [Bool.or_eq_true] at h1
    rcases h1 with h | h
    ·rw [g4] at h
     exact ZaC _ (of_decide_eq_true h).1
    rw [g5] at h
    exact Zaz _ (of_decide_eq_true h).1
   have hm':YZ k c=false:=by simpa using hm
   rw [Za8 (show YZ k c=false\/a=b from .inl hm')]
   unfold YZ at hm
   simp only [ZaL] at hm
   rw [Za7 (by omega),Za7 (by omega),Za7 (by omega),Za7 (by omega),Za7 (by omega),Za7 (by omega)]
   simp
  rw [Za7 hc]
  have hm':YZ k c=false:=by
   unfold YZ
   simp only [Zax]
   omega
  rw [Za8 (show YZ k c=false\/a=b from .inl hm')]
  simp
 exact hk _ _
theorem ring_bd {s t:Int} {ways:List (Int × Int)} (h:t∈X4 s ways):0<=t/\t < 64:=by
 unfold X4 at h
 rw [ZaS,List.mem_map] at h
 obtain ⟨⟨w,_,rfl⟩,h⟩:=h
 have:=Ug s w.1 w.2
 have:YR s w.1 w.2≠-1:=by simpa using h
 omega
theorem yR {f r:Int}:∀ {k:Nat} {s t:Int},t∈Vm f r k s->0<=t/\t < 64
 | 0,s,t,h=>by cases h
 | k+1,s,t,h=>by
  unfold Vm at h
  split at h
  ·cases h
  rename_i hn
  rcases ZaX.1 h with rfl | h
  ·have:=Ug s f r; omega
  exact yR h
theorem vW {P:Nat->Int} {s t:Int} (h:t∈Wc P s):0<=t/\t < 64:=by
 have ha:∀ ways,t∈X6 P s ways->0<=t/\t < 64:=by
  intro ways h
  unfold X6 at h
  rw [List.mem_flatMap] at h
  obtain ⟨w,_,h⟩:=h
  exact yR ((T0 P _).subset h)
 have hk:∀ k c,t∈Um P s k c->0<=t/\t < 64:=by
  intro k c h
  unfold Um at h
  repeat' split at h
  all_goals first | exact ring_bd h | exact ha _ h | cases h
 exact hk _ _ h
def Wg (n:Nat):List Int:=(List.range n).map fun (i:Nat)=>(i:Int)
def attL (P:Nat->Int) (s:Int):List Int:=if 0<=s/\s < 64 then (Wg 64).filter (Xk P s) else []
theorem gi (p:Int->Bool) (n:Nat):((Wg n).filter p).Pairwise (· < ·):=by
 refine List.Pairwise.filter _ ?_
 unfold Wg
 rw [List.pairwise_map]
 exact List.pairwise_lt_range.imp (fun h=>by omega)
theorem oS (P:Nat->Int) (s:Int):Wt P s=attL P s:=by
 unfold Wt attL
 by_cases h:0<=s/\s < 64
 ·rw [Za8 h,Za8 h]
  refine srtM_is (xp h) (gi _ _) fun x=>?_
  rw [ZaS]
  unfold Wg
  rw [List.mem_map]
  constructor
  ·intro hx
   have hb:=vW hx
   exact ⟨⟨x.toNat,ZaU.2 (by omega),by omega⟩,(TS h hb).1 hx⟩
  rintro ⟨⟨i,hi,rfl⟩,hx⟩
  exact (TS h ⟨by omega,by have:=ZaU.1 hi; omega⟩).2 hx
 rw [Za7 h,Za7 h]
end Go.Proofs.YtlkighkfkdpncaaGreatDoor
namespace Go.Am
open Go
section
variable {A:AP} {N:Nat} {f:FE} {n:Nat} {L:HA} {K:KN} {Zp:V->KN} {l:List I} {d:Nat}
def bytes2 (a b:Int):Nat->S:=WN (WN (fun _=>.int .u8 0) (0*1) 1 (fun _=>.int .u8 a)) (1*1) 1 (fun _=>.int .u8 b)
end
end Go.Am
namespace Go.Proofs.YtlkighkfkdpncaaGreatDoor
open Go Go.Am
def darkM (x:Int):Bool:=decide ((0<=x/\x < 64)/\(x % 8+x / 8) % 2=0)
def Y2 (x:Int):ByteArray:=if 0<=x/\x < 64 then ⟨#[UInt8.ofNat (97+(x % 8).toNat),UInt8.ofNat (49+(x / 8).toNat)]⟩ else ⟨#[]⟩
theorem wl {x:Int} (h:0<=x/\x < 64):Y2 x=⟨#[UInt8.ofNat (97+(x % 8).toNat),UInt8.ofNat (49+(x / 8).toNat)]⟩:=Za8 h
theorem rM:∀ f:Fin 8,(⟨#[97,98,99,100,101,102,103,104]⟩:ByteArray).extract f.val (f.val+1)=⟨#[UInt8.ofNat (97+f.val)]⟩:=by decide +kernel
theorem Zab:∀ f:Fin 8,(⟨#[49,50,51,52,53,54,55,56]⟩:ByteArray).extract f.val (f.val+1)=⟨#[UInt8.ofNat (49+f.val)]⟩:=by decide +kernel
theorem Zan {x:Int} (h:0<=x/\x < 64):Wx .add (.str ((⟨#[97,98,99,100,101,102,103,104]⟩:ByteArray).extract (x % 8).toNat (x % 8+1).toNat)) (.str ((⟨#[49,50,51,52,53,54,55,56]⟩:ByteArray).extract (x / 8).toNat (x / 8+1).toNat))=some (.str (Y2 x)):=by
 have e1:=rM ⟨(x % 8).toNat,by omega⟩
 have e2:=Zab ⟨(x / 8).toNat,by omega⟩
 simp only at e1 e2
 rw [show (x % 8+1).toNat=(x % 8).toNat+1 by omega,show (x / 8+1).toNat=(x / 8).toNat+1 by omega,e1,e2,wl h]
 rfl
theorem Name_in (x:Int) (h:0<=x/\x < 64):WR AM 22 [.s (.int .i64 x)] [] (fun v _ _=>v=.s (.str (Y2 x))):=by
 refine YJ (a:=a22) rfl rfl (YI _) (ZQ rfl) (m:=0) rfl (Ze (Yq rfl (Zf (Zj rfl (Yt rfl (y7 _ h) rfl rfl rfl (DT rfl (JE (v:=.agg _ _) rfl rfl rfl rfl rfl (K1 (ys:=[_,_,_]) rfl rfl) .here (Yc (Ye (Ze (Yd (o':=2) rfl rfl rfl (Yn (x:=.bool _) rfl rfl ZM rfl (Yv (r:=.bool _) rfl rfl (Yc (ZB rfl (Yh (Ye (Yg (Zy rfl (Zy rfl (Yn (x:=.int _ _) rfl rfl ZM rfl (Zy rfl (Zy rfl (Yn (x:=.int _ _) rfl rfl ZM rfl (Zs rfl rfl (UT rfl rfl rfl (by show 0<=_/\_<=_/\_<=((8:Nat):Int); omega) (Zy rfl (Zz rfl (Yn (x:=.int _ _) rfl rfl ZM rfl ?_)))))))))))))))))))))))))))))
 refine Zy rfl (Zz rfl (Yn (x:=.int _ _) rfl rfl ZM rfl (Zs rfl rfl (UT rfl rfl rfl (by show 0<=_/\_<=_/\_<=((8:Nat):Int); omega) (Yr rfl rfl (Zan h) (Yq (v:=.s _) rfl (Yc (Yi (⟨_,YK (v:=.s _) rfl (YP),?_⟩)))))))))
 rfl
theorem oJ (x:Int) (h:¬ (0<=x/\x < 64)):WR AM 22 [.s (.int .i64 x)] [] (fun v _ _=>v=.s (.str (Y2 x))):=by
 refine YJ (a:=a22) rfl rfl (YI _) (ZQ rfl) (m:=0) rfl (Ze (Yq rfl (Zf (Zj rfl (Yt rfl (DE _ h) rfl rfl rfl (DT rfl (JE (v:=.agg _ _) rfl rfl rfl rfl rfl (K1 (ys:=[_,_,_]) rfl rfl) .here (Yc (Ye (Ze (Yd (o':=2) rfl rfl rfl (Yn (x:=.bool _) rfl rfl ZM rfl (Yv (r:=.bool _) rfl rfl (Yc (ZA rfl (Ze (Yq rfl (Yc (Yi (⟨_,YK (v:=.s _) rfl (YP),?_⟩))))))))))))))))))))
 rw [Y2,Za7 h]; rfl
theorem Ul (x:Int):RF AM 22 [.s (.int .i64 x)] (.s (.str (Y2 x))):=by
 by_cases h:0<=x/\x < 64
 ·exact YG (Name_in x h)
 exact YG (oJ x h)
open Go Go.Am
def rayF (s f r:Int):Nat->Int
 | 0=>YR s f r
 | k+1=>YR (rayF s f r k) f r
def muM (s f r:Int):Nat:=if s < 0 then 0 else if 0 < f then (8 - s % 8).toNat else if f < 0 then (s % 8+1).toNat else if 0 < r then (8 - s / 8).toNat else (s / 8+1).toNat
theorem Zal {s f r:Int} (h:YR s f r≠-1):(0<=s/\s < 64)/\(0<=s % 8+f/\s % 8+f < 8)/\(0<=s / 8+r/\s / 8+r < 8)/\YR s f r=(s / 8+r)*8+(s % 8+f):=by
 unfold YR atM at h ⊢
 by_cases c:(0<=s/\s < 64)/\(-8 < f/\f < 8)/\(-8 < r/\r < 8)
 ·rw [Za8 c] at h ⊢
  by_cases e:0<=s % 8+f/\s % 8+f < 8/\0<=s / 8+r/\s / 8+r < 8
  ·rw [Za8 e]; exact ⟨c.1,⟨e.1,e.2.1⟩,⟨e.2.2.1,e.2.2.2⟩,rfl⟩
  rw [Za7 e] at h; exact absurd rfl h
 rw [Za7 c] at h; exact absurd rfl h
theorem yu {s f r:Int} (hz:¬ (f=0/\r=0)) (hs:s≠-1) (hb:-1<=s/\s < 64):muM (YR s f r) f r < muM s f r:=by
 have h0:=Ug s f r
 by_cases h:YR s f r=-1
 ·rw [h,show muM (-1) f r=0 from Za8 (by decide)]
  have n2:¬ s < 0:=by omega
  unfold muM
  rw [Za7 n2]
  by_cases a:0 < f
  ·rw [Za8 a]; omega
  rw [Za7 a]
  by_cases b:f < 0
  ·rw [Za8 b]; omega
  rw [Za7 b]
  by_cases c:0 < r
  ·rw [Za8 c]; omega
  rw [Za7 c]; omega
 have ⟨h1,h2,h3,h4⟩:=Zal h
 have e1:YR s f r % 8=s % 8+f:=by omega
 have e2:YR s f r / 8=s / 8+r:=by omega
 have n1:¬ YR s f r < 0:=by omega
 have n2:¬ s < 0:=by omega
 unfold muM
 rw [Za7 n1,Za7 n2,e1,e2]
 by_cases a:0 < f
 ·rw [Za8 a,Za8 a]; omega
 rw [Za7 a,Za7 a]
 by_cases b:f < 0
 ·rw [Za8 b,Za8 b]; omega
 rw [Za7 b,Za7 b]
 by_cases c:0 < r
 ·rw [Za8 c,Za8 c]; omega
 rw [Za7 c,Za7 c]; omega
theorem rt {s f r:Int} (h:s < 64):muM s f r<=8:=by
 unfold muM
 split
 ·omega
 split
 ·omega
 split
 ·omega
 split <;> omega
structure RayOf (s f r:Int) (n:Nat):Prop where
 on:∀ j:Nat,j < n->rayF s f r j≠-1
 off:rayF s f r n=-1
def jd (s:Int) (K:Nat->Int):Nat->Nat × (Nat->Int)
 | 0=>(0,fun _=>0)
 | i+1=>if YR s (dp K (0+(i:Int).toNat*2) 0) (dp K (0+(i:Int).toNat*2) 1)=-1 then jd s K i else ((jd s K i).1+1,fun j=>if j < (jd s K i).1 then (jd s K i).2 j else YR s (dp K (0+(i:Int).toNat*2) 0) (dp K (0+(i:Int).toNat*2) 1))
open Go Go.Am
theorem sQ {c:Int} (h:0<=c/\c<=15):Wx .shr (.int .i64 c) (.int .i64 0)=some (.int .i64 (c / 1)):=by
 have:c=0\/c=1\/c=2\/c=3\/c=4\/c=5\/c=6\/c=7\/c=8\/c=9\/c=10\/c=11\/c=12\/c=13\/c=14\/c=15:=by omega
 rcases this with rfl | rfl | rfl | rfl | rfl | rfl | rfl | rfl | rfl | rfl | rfl | rfl | rfl | rfl | rfl | rfl <;> rfl
theorem pe {c:Int} (h:0<=c/\c<=15):Wx .shr (.int .i64 c) (.int .i64 1)=some (.int .i64 (c / 2)):=by
 have:c=0\/c=1\/c=2\/c=3\/c=4\/c=5\/c=6\/c=7\/c=8\/c=9\/c=10\/c=11\/c=12\/c=13\/c=14\/c=15:=by omega
 rcases this with rfl | rfl | rfl | rfl | rfl | rfl | rfl | rfl | rfl | rfl | rfl | rfl | rfl | rfl | rfl | rfl <;> rfl
theorem pY {c:Int} (h:0<=c/\c<=15):Wx .shr (.int .i64 c) (.int .i64 2)=some (.int .i64 (c / 4)):=by
 have:c=0\/c=1\/c=2\/c=3\/c=4\/c=5\/c=6\/c=7\/c=8\/c=9\/c=10\/c=11\/c=12\/c=13\/c=14\/c=15:=by omega
 rcases this with rfl | rfl | rfl | rfl | rfl | rfl | rfl | rfl | rfl | rfl | rfl | rfl | rfl | rfl | rfl | rfl <;> rfl
theorem pT {c:Int} (h:0<=c/\c<=15):Wx .shr (.int .i64 c) (.int .i64 3)=some (.int .i64 (c / 8)):=by
 have:c=0\/c=1\/c=2\/c=3\/c=4\/c=5\/c=6\/c=7\/c=8\/c=9\/c=10\/c=11\/c=12\/c=13\/c=14\/c=15:=by omega
 rcases this with rfl | rfl | rfl | rfl | rfl | rfl | rfl | rfl | rfl | rfl | rfl | rfl | rfl | rfl | rfl | rfl <;> rfl
theorem RQ {c:Int} (h:0<=c/\c<=15):Wx .and (.int .i64 c) (.int .i64 1)=some (.int .i64 (c % 2)):=by
 have:c=0\/c=1\/c=2\/c=3\/c=4\/c=5\/c=6\/c=7\/c=8\/c=9\/c=10\/c=11\/c=12\/c=13\/c=14\/c=15:=by omega
 rcases this with rfl | rfl | rfl | rfl | rfl | rfl | rfl | rfl | rfl | rfl | rfl | rfl | rfl | rfl | rfl | rfl <;> rfl
def Y4 (P:Nat->Int) (x k c:Int):Bool:=decide (P (sqI x)=k/\P (sqI x+1)=c)
theorem Wd {X Y:Nat->Int}:eqI 2 X Y=decide (X 0=Y 0/\X 1=Y 1):=by
 rw [ZaP,Uw,ZaL]
 constructor
 ·intro h; exact ⟨h 0 (by omega),h 1 (by omega)⟩
 rintro ⟨h0,h1⟩ i hi
 have:i=0\/i=1:=by omega
 rcases this with rfl | rfl
 ·exact h0
 exact h1
def okM (P:Nat->Int) (s:Nat):Prop:=(P (sqI s)=0/\P (sqI s+1)=0)\/((1<=P (sqI s)/\P (sqI s)<=6/\(P (sqI s+1)=0\/P (sqI s+1)=1))/\¬ (P (sqI s)=1/\(s < 8\/56<=s)))
def kM (P:Nat->Int) (c:Int):Nat->Int
 | 0=>0
 | n+1=>kM P c n+(if P (sqI n)=6/\P (sqI n+1)=c then 1 else 0)
theorem q4 (P:Nat->Int) (c:Int):∀ n:Nat,0<=kM P c n/\kM P c n<=n
 | 0=>⟨Int.le_refl _,Int.le_refl _⟩
 | n+1=>by
  have:=q4 P c n
  unfold kM
  split <;> omega
instance (P:Nat->Int) (s:Nat):Decidable (okM P s):=by unfold okM; infer_instance
def WW (P:Nat->Int):Bool:=decide ((∀ s:Nat,s < 64->okM P s)/\kM P 0 64=1/\kM P 1 64=1/\(P 128=0\/P 128=1))
theorem Wa {P:Nat->Int} (h:¬ ((∀ s:Nat,s < 64->okM P s)/\kM P 0 64=1/\kM P 1 64=1/\(P 128=0\/P 128=1))):WW P=false:=by
 unfold WW; exact ZaT h
theorem UI {P:Nat->Int} (h:(∀ s:Nat,s < 64->okM P s)/\kM P 0 64=1/\kM P 1 64=1/\(P 128=0\/P 128=1)):WW P=true:=by
 unfold WW; exact ZaV h
theorem R0 {P:Nat->Int} (h:WW P=true):(∀ s:Nat,s < 64->okM P s)/\kM P 0 64=1/\kM P 1 64=1/\(P 128=0\/P 128=1):=by
 unfold WW at h; exact of_decide_eq_true h
theorem W9 {P:Nat->Int} {i:Nat} (h:∀ s:Nat,s < i->okM P s) (hi:okM P i):∀ s:Nat,s < i+1->okM P s:=fun s hs=>by
 by_cases e:s=i
 ·subst e; exact hi
 exact h s (by omega)
theorem Qj {P C:Nat->Int} {i:Nat} (h0:C 0=kM P 0 i) (h1:C 1=kM P 1 i) (hk:¬ P (sqI i)=6):C 0=kM P 0 (i+1)/\C 1=kM P 1 (i+1):=by
 unfold kM
 rw [Za7 (fun q=>hk q.1),Za7 (fun q=>hk q.1)]
 omega
theorem Qi {P C:Nat->Int} {i:Nat} (h0:C 0=kM P 0 i) (h1:C 1=kM P 1 i) (hk:P (sqI i)=6) (hc:P (sqI i+1)=0\/P (sqI i+1)=1):ov C (0+(P (sqI i+1)).toNat*1) (C (0+(P (sqI i+1)).toNat*1)+1) 0=kM P 0 (i+1)/\ov C (0+(P (sqI i+1)).toNat*1) (C (0+(P (sqI i+1)).toNat*1)+1) 1=kM P 1 (i+1):=by
 unfold kM
 rcases hc with hc | hc
 ·rw [Za8 ⟨hk,hc⟩,Za7 (by omega),hc]
  exact ⟨by show C 0+1=_; omega,by show C 1=_; omega⟩
 rw [Za7 (by omega),Za8 ⟨hk,hc⟩,hc]
 exact ⟨by show C 0=_; omega,by show C 1+1=_; omega⟩
theorem KH {P C:Nat->Int} {i:Nat} (h0:C 0=kM P 0 i) (h1:C 1=kM P 1 i) (hi:i<=64) (hc:P (sqI i+1)=0\/P (sqI i+1)=1):-9223372036854775808<=C (0+(P (sqI i+1)).toNat*1)+1/\C (0+(P (sqI i+1)).toNat*1)+1<=9223372036854775807:=by
 have:=q4 P 0 i
 have:=q4 P 1 i
 rcases hc with hc | hc
 ·rw [hc]; show _<=C 0+1/\C 0+1<=_; omega
 rw [hc]; show _<=C 1+1/\C 1+1<=_; omega
theorem dp_ix {P:Nat->Int} {i:Nat}:(fun j=>ia P ((i:Int).toNat*2+j))=ia (dp P (sqI i)):=by
 funext j
 show _=ia P (0+(i:Int).toNat*2+j)
 rw [ZaY]
theorem ovA2 {F X:Nat->Int}:ovA F 0 2 X 0=X 0/\ovA F 0 2 X 1=X 1:=⟨rfl,rfl⟩
def Xc (P:Nat->Int) (s a b:Int):Bool:=decide (P (sqI a)=6/\P (sqI a+1)=s/\P (sqI b)=4/\P (sqI b+1)=s)
def Y1 (P:Nat->Int):Bool:=decide ((0<=P 129/\P 129<=15)/\(P 129 % 2=0\/Xc P 0 4 7=true)/\(P 129 / 2 % 2=0\/Xc P 0 4 0=true)/\(P 129 / 4 % 2=0\/Xc P 1 60 63=true)/\(P 129 / 8=0\/Xc P 1 60 56=true))
def Xu (P:Nat->Int):Bool:=decide (P 130=-1\/((0<=P 130/\P 130 < 64)/\P 131=0/\((P 128=1/\P 130 / 8=2/\Y4 P (P 130) 0 0=true/\Y4 P (P 130 - 8) 0 0=true/\Y4 P (P 130+8) 1 0=true)\/(P 128=0/\P 130 / 8=5/\Y4 P (P 130) 0 0=true/\Y4 P (P 130+8) 0 0=true/\Y4 P (P 130 - 8) 1 1=true))))
def VO (P:Nat->Int):Bool:=WW P&&Y1 P&&Xu P&&decide (0<=P 131/\P 131<=1024/\1<=P 132/\P 132<=16384)
theorem Ke {x r:Int} (h:Wj x=r) (hr:0<=r):(0<=x/\x < 64)/\x / 8=r:=by
 unfold Wj at h
 split at h
 ·exact ⟨by assumption,h⟩
 omega
theorem uW {x d:Int} (hx:0<=x/\x < 64) (h:0<=x / 8+d/\x / 8+d < 8):YR x 0 d=x+8*d:=by
 unfold YR atM
 rw [Za8 ⟨hx,by omega,by omega⟩,Za8 (by omega)]
 omega
theorem Va (P:Nat->Int) (k s x:Int) (hx:0<=x/\x < 64):WR AM 150 [.agg 133 (ia P),.s (.int .i64 k),.s (.int .i64 s),.s (.int .i64 x)] [] (fun v _ _=>v=.s (.bool (Y4 P x k s))):=by
 refine YJ (a:=a150) rfl rfl (YI _) (ZQ rfl) (m:=0) rfl (Ze (YC rfl (Yq rfl (Zf (Zj rfl (Zy rfl (Zy rfl (Zw rfl rfl rfl (Yp rfl rfl ZM (Zj rfl (Zj rfl (YB rfl (.one rfl (.one rfl .nil)) (Yw rfl rfl (Zk rfl (Zg rfl (ZI ?_))))))))))))))))
 exact Wd
theorem T1 {md:Md} (P:Nat->Int) (x:Int) (hx:0<=x/\x < 64):WR AM 151 [.s (.int .i64 x),.ptr 0 0 133] [.sc md 133 (ia P)] (fun v _ L=>v=.s (.bool (Y4 P x 0 0))/\(0,Blk.sc md 133 (ia P))∈L):=by
 refine YJ (a:=a151) rfl rfl (YI _) (ZQ rfl) (m:=1) rfl (Ze (Yq rfl (Zf (Zj rfl (Zy rfl (Zy rfl (Zw rfl rfl rfl (Yp rfl rfl ZM (YB rfl .nil (Yw rfl rfl (Zk rfl (Zg rfl (⟨ZI ?_,ZM⟩)))))))))))))
 exact Wd
theorem tW (P:Nat->Int):WR AM 123 [.agg 133 (ia P)] [] (fun v _ _=>v=.s (.bool (Y1 P))):=by
 refine YJ (a:=a123) rfl rfl (YI _) (ZQ rfl) (m:=0) rfl (Ze (YC rfl (Yq rfl (Yc (Ye (Ze (Zy rfl (Yd (o':=129) rfl rfl rfl (Ym rfl rfl ZM rfl (Zr rfl (Zk rfl (Ys (t:=10) rfl (fun h26=>?_) (fun h26=>?_))))))))))))) <;> simp only [NM] at h26
 ·refine ZE rfl (Zq rfl (Yc (ZA rfl (Ze (Yq rfl (Zg rfl (ZI ?_)))))))
  rw [ZaP]
  simp only [Y1,Xc,Y4,ZaL,Zax,ZaF,Za3,Za5] at *
  omega
 refine Yb rfl (Zy rfl (Yb rfl (Yd (o':=129) rfl rfl rfl (Yb rfl (Ym rfl rfl ZM rfl (Yb rfl (Zr rfl (Zq rfl (Yc (Yj rfl (fun h27=>?_) (fun h27=>?_))))))))))) <;> simp only [NM] at h27
 ·refine Ze (Yq rfl (Zg rfl (ZI ?_)))
  rw [ZaP]
  simp only [Y1,Xc,Y4,ZaL,Zax,ZaF,Za3,Za5] at *
  omega
 refine Yh (Ye (Ze (YB rfl (.one rfl (.one rfl (.one rfl (.one rfl .nil)))) (Yq rfl (Yc (Yk (JI (fun f n L=>(0<=P 129/\P 129<=15)/\(P 129 / 1 % 2=0\/(P (sqI 4)=6/\P (sqI 4+1)=0/\P (sqI 7)=4/\P (sqI 7+1)=0))/\(f 1=.ptr 0 0 133)/\(f 16=.agg 4 (ia (ov (ov (ov (ov (fun _=>0) 0 7) 1 0) 2 63) 3 56)))/\(f 17=.s (.int .i64 1))/\(L=[(0,.sc .var 133 (ia P))])/\(n=1)) ?_ (fun f nb L hI=>?_))))))))
 ·refine Ze (Zr rfl (Yc (Ye (Yj rfl (fun h28=>?_) (fun h28=>?_))))) <;> simp only [NM] at h28
  ·refine Yh (Ye (Yk (Ze (Zj rfl (yQ (a:=.int .i64 7) rfl rfl rfl (by omega) rfl (Zj rfl (Zj rfl (Yc (Ye (Ze (Zy rfl (Yd (o':=129) rfl rfl rfl (Ym rfl rfl ZM rfl (Zj rfl (Yr rfl rfl (sQ ⟨by omega,by omega⟩) (Yr rfl rfl (RQ ⟨by omega,by omega⟩) (Zr rfl (Yc (Yj rfl (fun h29=>?_) (fun h29=>?_)))))))))))))))))))) <;> simp only [NM] at h29
   ·refine YX (Xe (Yf (Yr (r:=.int .i64 1) rfl rfl rfl (Zj rfl (Yc (⟨_,(.refl _),⟨by omega,by omega⟩,?_,rfl,rfl,rfl,rfl,rfl⟩))))))
    omega
   refine Yh (Ze (Zj rfl (Yr (r:=.int .i64 0) rfl rfl rfl (Zj rfl (Zf (Yo rfl rfl ZM (Zj rfl (Zj rfl (Yt rfl (YG (Va _ _ _ _ (by omega))) rfl rfl rfl (Yv (r:=.bool _) rfl rfl (Zk rfl (Ys (t:=35) rfl (fun h30=>?_) (fun h30=>?_))))))))))))) <;> simp only [NM] at h30
   ·refine ZF rfl (Zq rfl (Yc (ZA rfl (Ze (Yq rfl (Zg rfl (ZI ?_)))))))
    rw [ZaP]
    simp only [Y1,Xc,Y4,ZaL,Zax,ZaF,Za3,Za5] at *
    omega
   refine Yb rfl (Yo rfl rfl ZM (Yb rfl (Zj rfl (Yb rfl (Zj rfl (Yb rfl (Yr (r:=.int .i64 0) rfl rfl rfl (Yb rfl (Yr (r:=.int .i64 0) rfl rfl rfl (Yb rfl (Yr (r:=.int .i64 4) rfl rfl rfl (Yb rfl (Yt rfl (YG (Va _ _ _ _ (by omega))) rfl rfl rfl (Yb rfl (Yv (r:=.bool _) rfl rfl (Zq rfl (Yc (Yj rfl (fun h31=>?_) (fun h31=>?_))))))))))))))))))) <;> simp only [NM] at h31
   ·refine Ze (Yq rfl (Zg rfl (ZI ?_)))
    rw [ZaP]
    simp only [Y1,Xc,Y4,ZaL,Zax,ZaF,Za3,Za5] at *
    omega
   refine Yh (Yf (Yr (r:=.int .i64 1) rfl rfl rfl (Zj rfl (Yc (⟨_,(.refl _),⟨by omega,by omega⟩,?_,rfl,rfl,rfl,rfl,rfl⟩)))))
   try simp only [Y4,ZaL,Zax] at *
   omega
  exfalso; omega
 obtain ⟨hC,hf0,k1,k16,k17,rfl,rfl⟩:=hI
 refine Za 1 k1 (Za 16 k16 (Za 17 k17 (JI (fun f n L=>(P 129 / 2 % 2=0\/(P (sqI 4)=6/\P (sqI 4+1)=0/\P (sqI 0)=4/\P (sqI 0+1)=0))/\(f 1=.ptr 0 0 133)/\(f 16=.agg 4 (ia (ov (ov (ov (ov (fun _=>0) 0 7) 1 0) 2 63) 3 56)))/\(f 17=.s (.int .i64 2))/\(L=[(0,.sc .var 133 (ia P))])/\(n=1)) ?_ (fun f nb L hI=>?_))))
 ·refine Ze (Zr rfl (Yc (Ye (Yj rfl (fun h32=>?_) (fun h32=>?_))))) <;> simp only [NM] at h32
  ·refine Yh (Ye (Yk (Ze (Zj rfl (yQ (a:=.int .i64 0) rfl rfl rfl (by omega) rfl (Zj rfl (Zj rfl (Yc (Ye (Ze (Zy rfl (Yd (o':=129) rfl rfl rfl (Ym rfl rfl ZM rfl (Zj rfl (Yr rfl rfl (pe ⟨by omega,by omega⟩) (Yr rfl rfl (RQ ⟨by omega,by omega⟩) (Zr rfl (Yc (Yj rfl (fun h33=>?_) (fun h33=>?_)))))))))))))))))))) <;> simp only [NM] at h33
   ·refine YX (Xe (Yf (Yr (r:=.int .i64 2) rfl rfl rfl (Zj rfl (Yc (⟨_,(.refl _),?_,rfl,rfl,rfl,rfl,rfl⟩))))))
    omega
   refine Yh (Ze (Zj rfl (Yr (r:=.int .i64 0) rfl rfl rfl (Zj rfl (Zf (Yo rfl rfl ZM (Zj rfl (Zj rfl (Yt rfl (YG (Va _ _ _ _ (by omega))) rfl rfl rfl (Yv (r:=.bool _) rfl rfl (Zk rfl (Ys (t:=35) rfl (fun h34=>?_) (fun h34=>?_))))))))))))) <;> simp only [NM] at h34
   ·refine ZF rfl (Zq rfl (Yc (ZA rfl (Ze (Yq rfl (Zg rfl (ZI ?_)))))))
    rw [ZaP]
    simp only [Y1,Xc,Y4,ZaL,Zax,ZaF,Za3,Za5] at *
    omega
   refine Yb rfl (Yo rfl rfl ZM (Yb rfl (Zj rfl (Yb rfl (Zj rfl (Yb rfl (Yr (r:=.int .i64 0) rfl rfl rfl (Yb rfl (Yr (r:=.int .i64 0) rfl rfl rfl (Yb rfl (Yr (r:=.int .i64 4) rfl rfl rfl (Yb rfl (Yt rfl (YG (Va _ _ _ _ (by omega))) rfl rfl rfl (Yb rfl (Yv (r:=.bool _) rfl rfl (Zq rfl (Yc (Yj rfl (fun h35=>?_) (fun h35=>?_))))))))))))))))))) <;> simp only [NM] at h35
   ·refine Ze (Yq rfl (Zg rfl (ZI ?_)))
    rw [ZaP]
    simp only [Y1,Xc,Y4,ZaL,Zax,ZaF,Za3,Za5] at *
    omega
   refine Yh (Yf (Yr (r:=.int .i64 2) rfl rfl rfl (Zj rfl (Yc (⟨_,(.refl _),?_,rfl,rfl,rfl,rfl,rfl⟩)))))
   try simp only [Y4,ZaL,Zax] at *
   omega
  exfalso; omega
 obtain ⟨hf1,k1,k16,k17,rfl,rfl⟩:=hI
 refine Za 1 k1 (Za 16 k16 (Za 17 k17 (JI (fun f n L=>(P 129 / 4 % 2=0\/(P (sqI 60)=6/\P (sqI 60+1)=1/\P (sqI 63)=4/\P (sqI 63+1)=1))/\(f 1=.ptr 0 0 133)/\(f 16=.agg 4 (ia (ov (ov (ov (ov (fun _=>0) 0 7) 1 0) 2 63) 3 56)))/\(f 17=.s (.int .i64 3))/\(L=[(0,.sc .var 133 (ia P))])/\(n=1)) ?_ (fun f nb L hI=>?_))))
 ·refine Ze (Zr rfl (Yc (Ye (Yj rfl (fun h36=>?_) (fun h36=>?_))))) <;> simp only [NM] at h36
  ·refine Yh (Ye (Yk (Ze (Zj rfl (yQ (a:=.int .i64 63) rfl rfl rfl (by omega) rfl (Zj rfl (Zj rfl (Yc (Ye (Ze (Zy rfl (Yd (o':=129) rfl rfl rfl (Ym rfl rfl ZM rfl (Zj rfl (Yr rfl rfl (pY ⟨by omega,by omega⟩) (Yr rfl rfl (RQ ⟨by omega,by omega⟩) (Zr rfl (Yc (Yj rfl (fun h37=>?_) (fun h37=>?_)))))))))))))))))))) <;> simp only [NM] at h37
   ·refine YX (Xe (Yf (Yr (r:=.int .i64 3) rfl rfl rfl (Zj rfl (Yc (⟨_,(.refl _),?_,rfl,rfl,rfl,rfl,rfl⟩))))))
    omega
   refine Yh (Ze (Zj rfl (Yr (r:=.int .i64 1) rfl rfl rfl (Zj rfl (Zf (Yo rfl rfl ZM (Zj rfl (Zj rfl (Yt rfl (YG (Va _ _ _ _ (by omega))) rfl rfl rfl (Yv (r:=.bool _) rfl rfl (Zk rfl (Ys (t:=35) rfl (fun h38=>?_) (fun h38=>?_))))))))))))) <;> simp only [NM] at h38
   ·refine ZF rfl (Zq rfl (Yc (ZA rfl (Ze (Yq rfl (Zg rfl (ZI ?_)))))))
    rw [ZaP]
    simp only [Y1,Xc,Y4,ZaL,Zax,ZaF,Za3,Za5] at *
    omega
   refine Yb rfl (Yo rfl rfl ZM (Yb rfl (Zj rfl (Yb rfl (Zj rfl (Yb rfl (Yr (r:=.int .i64 7) rfl rfl rfl (Yb rfl (Yr (r:=.int .i64 56) rfl rfl rfl (Yb rfl (Yr (r:=.int .i64 60) rfl rfl rfl (Yb rfl (Yt rfl (YG (Va _ _ _ _ (by omega))) rfl rfl rfl (Yb rfl (Yv (r:=.bool _) rfl rfl (Zq rfl (Yc (Yj rfl (fun h39=>?_) (fun h39=>?_))))))))))))))))))) <;> simp only [NM] at h39
   ·refine Ze (Yq rfl (Zg rfl (ZI ?_)))
    rw [ZaP]
    simp only [Y1,Xc,Y4,ZaL,Zax,ZaF,Za3,Za5] at *
    omega
   refine Yh (Yf (Yr (r:=.int .i64 3) rfl rfl rfl (Zj rfl (Yc (⟨_,(.refl _),?_,rfl,rfl,rfl,rfl,rfl⟩)))))
   try simp only [Y4,ZaL,Zax] at *
   omega
  exfalso; omega
 obtain ⟨hf2,k1,k16,k17,rfl,rfl⟩:=hI
 refine Za 1 k1 (Za 16 k16 (Za 17 k17 (JI (fun f n L=>(P 129 / 8 % 2=0\/(P (sqI 60)=6/\P (sqI 60+1)=1/\P (sqI 56)=4/\P (sqI 56+1)=1))/\(f 1=.ptr 0 0 133)/\(f 16=.agg 4 (ia (ov (ov (ov (ov (fun _=>0) 0 7) 1 0) 2 63) 3 56)))/\(f 17=.s (.int .i64 4))/\(L=[(0,.sc .var 133 (ia P))])/\(n=1)) ?_ (fun f nb L hI=>?_))))
 ·refine Ze (Zr rfl (Yc (Ye (Yj rfl (fun h40=>?_) (fun h40=>?_))))) <;> simp only [NM] at h40
  ·refine Yh (Ye (Yk (Ze (Zj rfl (yQ (a:=.int .i64 56) rfl rfl rfl (by omega) rfl (Zj rfl (Zj rfl (Yc (Ye (Ze (Zy rfl (Yd (o':=129) rfl rfl rfl (Ym rfl rfl ZM rfl (Zj rfl (Yr rfl rfl (pT ⟨by omega,by omega⟩) (Yr rfl rfl (RQ ⟨by omega,by omega⟩) (Zr rfl (Yc (Yj rfl (fun h41=>?_) (fun h41=>?_)))))))))))))))))))) <;> simp only [NM] at h41
   ·refine YX (Xe (Yf (Yr (r:=.int .i64 4) rfl rfl rfl (Zj rfl (Yc (⟨_,(.refl _),?_,rfl,rfl,rfl,rfl,rfl⟩))))))
    omega
   refine Yh (Ze (Zj rfl (Yr (r:=.int .i64 1) rfl rfl rfl (Zj rfl (Zf (Yo rfl rfl ZM (Zj rfl (Zj rfl (Yt rfl (YG (Va _ _ _ _ (by omega))) rfl rfl rfl (Yv (r:=.bool _) rfl rfl (Zk rfl (Ys (t:=35) rfl (fun h42=>?_) (fun h42=>?_))))))))))))) <;> simp only [NM] at h42
   ·refine ZF rfl (Zq rfl (Yc (ZA rfl (Ze (Yq rfl (Zg rfl (ZI ?_)))))))
    rw [ZaP]
    simp only [Y1,Xc,Y4,ZaL,Zax,ZaF,Za3,Za5] at *
    omega
   refine Yb rfl (Yo rfl rfl ZM (Yb rfl (Zj rfl (Yb rfl (Zj rfl (Yb rfl (Yr (r:=.int .i64 7) rfl rfl rfl (Yb rfl (Yr (r:=.int .i64 56) rfl rfl rfl (Yb rfl (Yr (r:=.int .i64 60) rfl rfl rfl (Yb rfl (Yt rfl (YG (Va _ _ _ _ (by omega))) rfl rfl rfl (Yb rfl (Yv (r:=.bool _) rfl rfl (Zq rfl (Yc (Yj rfl (fun h43=>?_) (fun h43=>?_))))))))))))))))))) <;> simp only [NM] at h43
   ·refine Ze (Yq rfl (Zg rfl (ZI ?_)))
    rw [ZaP]
    simp only [Y1,Xc,Y4,ZaL,Zax,ZaF,Za3,Za5] at *
    omega
   refine Yh (Yf (Yr (r:=.int .i64 4) rfl rfl rfl (Zj rfl (Yc (⟨_,(.refl _),?_,rfl,rfl,rfl,rfl,rfl⟩)))))
   try simp only [Y4,ZaL,Zax] at *
   omega
  exfalso; omega
 obtain ⟨hf3,k1,k16,k17,rfl,rfl⟩:=hI
 refine Za 1 k1 (Za 16 k16 (Za 17 k17 (YW (Ze (Zr rfl (Yc (Ye (Yj rfl (fun h44=>?_) (fun h44=>?_))))))))) <;> simp only [NM] at h44
 ·exfalso; omega
 refine YX (Xe (Ze (Yq rfl (Zg rfl (ZI ?_)))))
 rw [ZaP]
 simp only [Y1,Xc,Y4,ZaL,Zax,ZaF,Za3,Za5] at *
 omega
end Go.Proofs.YtlkighkfkdpncaaGreatDoor
