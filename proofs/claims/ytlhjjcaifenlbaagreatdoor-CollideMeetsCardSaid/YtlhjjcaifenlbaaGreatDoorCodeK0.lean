/- The compact code is what the checked translation makes of the loaded program: each by the kernel. -/
import Derived.Test.YtlhjjcaifenlbaaGreatDoorCode
import Derived.Test.YtlhjjcaifenlbaaGreatDoorBd
import Derived.Test.YtlhjjcaifenlbaaGreatDoorProg
import Derived.KernelRfl
set_option maxRecDepth 100000
namespace Go.Mx.Tryz
open Go.Proofs Go.Proofs.Tryz
abbrev Gqk (k:Nat)(c:F):Prop:=Good Tryz.prog gl sh (k,c)
theorem gN : (Go.Proofs.Tryz.prog.funcs.toList.all fun f => !(f.name == "runtime.NumGoroutine")) = true := by kernel_rfl
theorem gM {k : Nat} {f : Go.Func} (e : Go.Proofs.Tryz.prog.funcs[k]? = some f) : (f.name == "runtime.NumGoroutine") = false := by
  have h := List.all_eq_true.1 gN f (List.mem_of_getElem? (by rw[Array.getElem?_toList];exact e))
  simpa using h
theorem gK {k:Nat}{f:Go.Func}{c:F}(h:Hint)(d:Nat→List Nat)(e:Go.Proofs.Tryz.prog.funcs[k]? = some f)(z:AdY Go.Proofs.Tryz.prog h gl sh d f=some c):Gqk k c := ⟨f, h, d, e, gM e, z⟩
theorem gqE {k:Nat}{f:Go.Func}{h:Hint}{d:Nat→List Nat}(e:Go.Proofs.Tryz.prog.funcs[k]? = some f)(s:(AdY Go.Proofs.Tryz.prog h gl sh d f).isSome=true):Gqk k (cqE f h d) := ⟨f, h, d, e, gM e, by
  show AdY Go.Proofs.Tryz.prog h gl sh d f=some ((AdY Go.Proofs.Tryz.prog h gl sh d f).getD ⟨0, [], .skip⟩)
  cases hx:AdY Go.Proofs.Tryz.prog h gl sh d f with
  | none => rw[hx]at s;cases s
  | some x => rfl⟩
theorem k5:Gqk 5 c5:=gK (hqk 140737488350720 12 bO) dO func5 (by kernel_rfl)
theorem k6:Gqk 6 c6:=gK (hqk 140737488350720 12 bO) dO func6 (by kernel_rfl)
theorem k7:Gqk 7 c7:=gqE func7 (by kernel_rfl)
theorem k8:Gqk 8 c8:=gK (hqk 10889035741153118180766894861626524827648 12 (bI [(101,1)])) (dI [(8,[0,1,4,5,6,8,9,10,11,12,13,21,39,61,98])]) func8 (by kernel_rfl)
theorem k9:Gqk 9 c9:=gK (hqk 324518553658422115097137559339008 12 bO) (dI [(5,[0,1,4,18,25])]) func9 (by kernel_rfl)
theorem k10:Gqk 10 c10:=gK (hqk 402186224 2 bO) (dI [(4,[0,2,3,13,18,27])]) func10 (by kernel_rfl)
theorem k17:Gqk 17 c17:=gK (hqk 480 0 bO) dO func17 (by kernel_rfl)
theorem k21:Gqk 21 c21:=gK (hqk 633825300104891204466682884480 12 bO) (dI [(2,[0,1,4,5,11,40]),(8,[6,9,10,11,46,63])]) func21 (by kernel_rfl)
theorem k22:Gqk 22 c22:=gqE func22 (by kernel_rfl)
theorem k23:Gqk 23 c23:=gK (hqk 554591999369953183591808368640 16 bO) (dI [(13,[0,1,2,8,9,11,16,17,26,33,36,43,51,52,53,78,82,96]),(16,[11,15,47,53,68])]) func23 (by kernel_rfl)
theorem k24:Gqk 24 c24:=gK (hqk 2376835202840634906131237437440 16 (bI [(74,1)])) (dI [(12,[0,1,2,8,9,11,13,15,16,19,20,21,22,31,38,45,48,57,83,97]),(16,[17,18,51,57,70])]) func24 (by kernel_rfl)
theorem k25:Gqk 25 c25:=gK (hqk 267382784 16 bO) dO func25 (by kernel_rfl)
theorem k26:Gqk 26 c26:=gK (hqk 1089843740672 16 bO) dO func26 (by kernel_rfl)
theorem k27:Gqk 27 c27:=gK (hqk 39439995938526557101895991296 525120 bO) (dI [(8,[0,2,3,12,13,15,18,32,47,59]),(11,[19,20,21,52,59,84,87])]) func27 (by kernel_rfl)
theorem k28:Gqk 28 c28:=gK (hqk 39439995938526557101895991296 525120 bO) (dI [(8,[0,2,3,12,13,15,18,32,47,59]),(11,[19,20,21,52,59,84,87])]) func28 (by kernel_rfl)
theorem k29:Gqk 29 c29:=gK (hqk 33536960 0 bO) (dI [(4,[4,10,14,25])]) func29 (by kernel_rfl)
theorem k30:Gqk 30 c30:=gK (hqk 1298071738753627759910771956374528 0 bO) (dI [(3,[2,3,6,7,8,28]),(7,[4,9,13,28,39,59,91])]) func30 (by kernel_rfl)
theorem k35:Gqk 35 c35:=gK (hqk 1657320264556851200 64 bO) (dI [(3,[0,2,3,6,11,14,19,28]),(14,[8,9,10,11,42,56])]) func35 (by kernel_rfl)
theorem k36:Gqk 36 c36:=gK (hqk 524144 2 bO) dO func36 (by kernel_rfl)
theorem k37:Gqk 37 c37:=gK (hqk 33519296 4 bO) (dI [(6,[0,4,8,11,15,25])]) func37 (by kernel_rfl)
theorem k38:Gqk 38 c38:=gK (hqk 4398046510592 140 bO) dO func38 (by kernel_rfl)
theorem k39:Gqk 39 c39:=gK (hqk 17592152473088 40 bO) dO func39 (by kernel_rfl)
theorem k40:Gqk 40 c40:=gK (hqk 434455408319852449888000 0 bO) (dI [(3,[2,3,11,25,39]),(10,[5,11,43,51]),(15,[0,6,43,61,74])]) func40 (by kernel_rfl)
theorem k41:Gqk 41 c41:=gK (hqk 266225022976 8 bO) (dI [(7,[0,2,6,7,8,9,10,15,22,25,33])]) func41 (by kernel_rfl)
theorem k42:Gqk 42 c42:=gK (hqk 224 0 bO) dO func42 (by kernel_rfl)
theorem k43:Gqk 43 c43:=gK (hqk 16514048 8 bO) dO func43 (by kernel_rfl)
theorem k44:Gqk 44 c44:=gK (hqk 618965297275081367629037504 0 bO) (dI [(2,[4,15,28,50,72])]) func44 (by kernel_rfl)
theorem k45:Gqk 45 c45:=gK (hqk 295003649253755041792 40 bO) dO func45 (by kernel_rfl)
theorem k46:Gqk 46 c46:=gK (hqk 126100789092412416 0 bO) (dI [(7,[0,6,7,9,12,22,28,54])]) func46 (by kernel_rfl)
theorem k48:Gqk 48 c48:=gK (hqk 9444732684263172860928 0 bO) (dI [(7,[6,7,12,26,30,48])]) func48 (by kernel_rfl)
theorem k50:Gqk 50 c50:=gqE func50 (by kernel_rfl)
theorem k51:Gqk 51 c51:=gqE func51 (by kernel_rfl)
theorem k52:Gqk 52 c52:=gqE func52 (by kernel_rfl)
theorem k53:Gqk 53 c53:=gK (hqk 70093606182912 1032 (bI [(42,1)])) (dI [(7,[0,2,6,7,10,11,12,15,23,27,38])]) func53 (by kernel_rfl)
theorem k54:Gqk 54 c54:=gK (hqk 233895936 0 bO) (dI [(2,[2,4,16,17,18,19]),(5,[3,6,10,19,25])]) func54 (by kernel_rfl)
theorem k55:Gqk 55 c55:=gK (hqk 2095104 0 bO) (dI [(3,[0,2,3,6,10])]) func55 (by kernel_rfl)
theorem k56:Gqk 56 c56:=gK (hqk 259968 4 bO) dO func56 (by kernel_rfl)
theorem k57:Gqk 57 c57:=gK (hqk 139637905403904 8 (bI [(44,1)])) (dI [(7,[0,6,7,10,11,14,22,26,40])]) func57 (by kernel_rfl)
theorem k58:Gqk 58 c58:=gK (hqk 569543218877601398784 4228 bO) (dI [(9,[0,1,4,5,6,12,13,18,27,42])]) func58 (by kernel_rfl)
theorem k59:Gqk 59 c59:=gK (hqk 129760256 8 bO) dO func59 (by kernel_rfl)
theorem k61:Gqk 61 c61:=gK (hqk 16376 2 bO) dO func61 (by kernel_rfl)
theorem k62:Gqk 62 c62:=gK (hqk 13194139529312 16 bO) (dI [(4,[2,3,4,7,11,42])]) func62 (by kernel_rfl)
theorem k63:Gqk 63 c63:=gK (hqk 523808 0 bO) (dI [(3,[2,4,8])]) func63 (by kernel_rfl)
theorem k64:Gqk 64 c64:=gK (hqk 2198956146176 44 bO) dO func64 (by kernel_rfl)
theorem k65:Gqk 65 c65:=gK (hqk 262112 0 bO) dO func65 (by kernel_rfl)
theorem k66:Gqk 66 c66:=gK (hqk 131064 2 bO) dO func66 (by kernel_rfl)
theorem k67:Gqk 67 c67:=gK (hqk 248 6 bO) dO func67 (by kernel_rfl)
theorem k68:Gqk 68 c68:=gK (hqk 16352 0 bO) dO func68 (by kernel_rfl)
theorem k69:Gqk 69 c69:=gK (hqk 992 12 bO) dO func69 (by kernel_rfl)
theorem k70:Gqk 70 c70:=gK (hqk 41528233653786459970852289742110464 34 bO) (dI [(5,[0,2,5,6,32,65]),(11,[7,35,61,65,74,83,103])]) func70 (by kernel_rfl)
theorem k71:Gqk 71 c71:=gK (hqk 515395517824 4 bO) (dI [(6,[0,4,5,9,15,19,35])]) func71 (by kernel_rfl)
theorem k72:Gqk 72 c72:=gK (hqk 270215977642229616 0 bO) (dI [(2,[2,7,54])]) func72 (by kernel_rfl)
theorem k73:Gqk 73 c73:=gK (hqk 534771712 296 bO) dO func73 (by kernel_rfl)
theorem k74:Gqk 74 c74:=gK (hqk 604462909807177148333568 4 bO) (dI [(5,[3,16,37])]) func74 (by kernel_rfl)
theorem k75:Gqk 75 c75:=gK (hqk 140737487830400 40 bO) dO func75 (by kernel_rfl)
theorem k76:Gqk 76 c76:=gK (hqk 504 0 bO) dO func76 (by kernel_rfl)
theorem k77:Gqk 77 c77:=gK (hqk 268432384 48 bO) dO func77 (by kernel_rfl)
theorem k78:Gqk 78 c78:=gK (hqk 524256 0 bO) dO func78 (by kernel_rfl)
theorem k79:Gqk 79 c79:=gK (hqk 4329318643456 8 bO) (dI [(4,[1,4,11,23])]) func79 (by kernel_rfl)
theorem k80:Gqk 80 c80:=gK (hqk 16777184 12 bO) dO func80 (by kernel_rfl)
end Go.Mx.Tryz
