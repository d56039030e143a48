/- The compact code is what the checked translation makes of the loaded program: each by the kernel. -/
import Derived.Test.YtiehnedoinlfeaaGreatDoorCode
import Derived.Test.YtiehnedoinlfeaaGreatDoorBd
import Derived.Test.YtiehnedoinlfeaaGreatDoorProg
import Derived.KernelRfl
set_option maxRecDepth 100000
namespace Go.Mx.Tryz
open Go.Proofs Go.Proofs.Tryz
abbrev Gqk (k:Nat)(c:F):Prop:=Good Tryz.prog gl sh (k,c)
theorem gN : (Go.Proofs.Tryz.prog.funcs.toList.all fun f => !(f.name == "runtime.NumGoroutine")) = true := by kernel_rfl
theorem gM {k : Nat} {f : Go.Func} (e : Go.Proofs.Tryz.prog.funcs[k]? = some f) : (f.name == "runtime.NumGoroutine") = false := by
  have h := List.all_eq_true.1 gN f (List.mem_of_getElem? (by rw[Array.getElem?_toList];exact e))
  simpa using h
theorem gK {k:Nat}{f:Go.Func}{c:F}(h:Hint)(d:Nat→List Nat)(e:Go.Proofs.Tryz.prog.funcs[k]? = some f)(z:Aef Go.Proofs.Tryz.prog h gl sh d f=some c):Gqk k c := ⟨f, h, d, e, gM e, z⟩
theorem gqE {k:Nat}{f:Go.Func}{h:Hint}{d:Nat→List Nat}(e:Go.Proofs.Tryz.prog.funcs[k]? = some f)(s:(Aef Go.Proofs.Tryz.prog h gl sh d f).isSome=true):Gqk k (cqE f h d) := ⟨f, h, d, e, gM e, by
  show Aef Go.Proofs.Tryz.prog h gl sh d f=some ((Aef Go.Proofs.Tryz.prog h gl sh d f).getD ⟨0, [], .skip⟩)
  cases hx:Aef Go.Proofs.Tryz.prog h gl sh d f with
  | none => rw[hx]at s;cases s
  | some x => rfl⟩
theorem k3:Gqk 3 c3:=gK (hqk 151115727451828378400768 24 bO) dO func3 (by kernel_rfl)
theorem k4:Gqk 4 c4:=gK (hqk 633825300104891204466682884480 12 bO) (dI [(2,[0,1,4,5,11,40]),(8,[6,9,10,11,46,63])]) func4 (by kernel_rfl)
theorem k5:Gqk 5 c5:=gqE func5 (by kernel_rfl)
theorem k6:Gqk 6 c6:=gK (hqk 39439995938526557101895991296 525120 bO) (dI [(8,[0,2,3,12,13,15,18,32,47,59]),(11,[19,20,21,52,59,84,87])]) func6 (by kernel_rfl)
theorem k7:Gqk 7 c7:=gK (hqk 39439995938526557101895991296 525120 bO) (dI [(8,[0,2,3,12,13,15,18,32,47,59]),(11,[19,20,21,52,59,84,87])]) func7 (by kernel_rfl)
theorem k8:Gqk 8 c8:=gK (hqk 33536960 0 bO) (dI [(4,[4,10,14,25])]) func8 (by kernel_rfl)
theorem k9:Gqk 9 c9:=gK (hqk 402186224 2 bO) (dI [(4,[0,2,3,13,18,27])]) func9 (by kernel_rfl)
theorem k10:Gqk 10 c10:=gqE func10 (by kernel_rfl)
theorem k11:Gqk 11 c11:=gK (hqk 554591999369953183591808368640 16 bO) (dI [(13,[0,1,2,8,9,11,16,17,26,33,36,43,51,52,53,78,82,96]),(16,[11,15,47,53,68])]) func11 (by kernel_rfl)
theorem k12:Gqk 12 c12:=gqE func12 (by kernel_rfl)
theorem k13:Gqk 13 c13:=gqE func13 (by kernel_rfl)
theorem k14:Gqk 14 c14:=gqE func14 (by kernel_rfl)
theorem k15:Gqk 15 c15:=gK (hqk 70093606182912 1032 (bI [(42,1)])) (dI [(7,[0,2,6,7,10,11,12,15,23,27,38])]) func15 (by kernel_rfl)
theorem k16:Gqk 16 c16:=gK (hqk 139637905403904 8 (bI [(44,1)])) (dI [(7,[0,6,7,10,11,14,22,26,40])]) func16 (by kernel_rfl)
theorem k17:Gqk 17 c17:=gK (hqk 2376835202840634906131237437440 16 (bI [(74,1)])) (dI [(12,[0,1,2,8,9,11,13,15,16,19,20,21,22,31,38,45,48,57,83,97]),(16,[17,18,51,57,70])]) func17 (by kernel_rfl)
theorem k18:Gqk 18 c18:=gqE func18 (by kernel_rfl)
theorem k19:Gqk 19 c19:=gqE func19 (by kernel_rfl)
theorem k20:Gqk 20 c20:=gK (hqk 233895936 0 bO) (dI [(2,[2,4,16,17,18,19]),(5,[3,6,10,19,25])]) func20 (by kernel_rfl)
theorem k21:Gqk 21 c21:=gK (hqk 2095104 0 bO) (dI [(3,[0,2,3,6,10])]) func21 (by kernel_rfl)
theorem k22:Gqk 22 c22:=gK (hqk 259968 4 bO) dO func22 (by kernel_rfl)
theorem k23:Gqk 23 c23:=gK (hqk 224 0 bO) dO func23 (by kernel_rfl)
theorem k24:Gqk 24 c24:=gqE func24 (by kernel_rfl)
theorem k25:Gqk 25 c25:=gK (hqk 266225022976 8 bO) (dI [(7,[0,2,6,7,8,9,10,15,22,25,33])]) func25 (by kernel_rfl)
theorem k26:Gqk 26 c26:=gqE func26 (by kernel_rfl)
theorem k27:Gqk 27 c27:=gK (hqk 16376 2 bO) dO func27 (by kernel_rfl)
theorem k28:Gqk 28 c28:=gK (hqk 295003649253755041792 40 bO) dO func28 (by kernel_rfl)
theorem k29:Gqk 29 c29:=gK (hqk 524144 2 bO) dO func29 (by kernel_rfl)
theorem k30:Gqk 30 c30:=gK (hqk 17592152473088 40 bO) dO func30 (by kernel_rfl)
theorem k31:Gqk 31 c31:=gK (hqk 1298071738753627759910771956374528 0 bO) (dI [(3,[2,3,6,7,8,28]),(7,[4,9,13,28,39,59,91])]) func31 (by kernel_rfl)
theorem k32:Gqk 32 c32:=gK (hqk 569543218877601398784 4228 bO) (dI [(9,[0,1,4,5,6,12,13,18,27,42])]) func32 (by kernel_rfl)
theorem k33:Gqk 33 c33:=gK (hqk 480 0 bO) dO func33 (by kernel_rfl)
theorem k34:Gqk 34 c34:=gqE func34 (by kernel_rfl)
theorem k35:Gqk 35 c35:=gqE func35 (by kernel_rfl)
theorem k36:Gqk 36 c36:=gqE func36 (by kernel_rfl)
theorem k37:Gqk 37 c37:=gqE func37 (by kernel_rfl)
theorem k38:Gqk 38 c38:=gK (hqk 262112 0 bO) dO func38 (by kernel_rfl)
theorem k39:Gqk 39 c39:=gK (hqk 1657320264556851200 64 bO) (dI [(3,[0,2,3,6,11,14,19,28]),(14,[8,9,10,11,42,56])]) func39 (by kernel_rfl)
theorem k40:Gqk 40 c40:=gK (hqk 515520 4 bO) dO func40 (by kernel_rfl)
theorem k41:Gqk 41 c41:=gK (hqk 2361142691445482946560 13316 bO) (dI [(5,[0,1,4,5,10,25,26,27,28]),(8,[12,13,14,21,28,44,52,55])]) func41 (by kernel_rfl)
theorem k42:Gqk 42 c42:=gK (hqk 50301888 0 bO) (dI [(4,[4,5,10,14,24])]) func42 (by kernel_rfl)
theorem k43:Gqk 43 c43:=gqE func43 (by kernel_rfl)
theorem k44:Gqk 44 c44:=gqE func44 (by kernel_rfl)
theorem k45:Gqk 45 c45:=gqE func45 (by kernel_rfl)
theorem k46:Gqk 46 c46:=gK (hqk 145384312038687109241252602162708224 34 bO) (dI [(5,[0,2,3,4,5,45,74,75,76,77]),(10,[7,50,72,77,114])]) func46 (by kernel_rfl)
theorem k47:Gqk 47 c47:=gK (hqk 536809216 4 bO) (dI [(3,[0,1,4,7,15])]) func47 (by kernel_rfl)
theorem k48:Gqk 48 c48:=gK (hqk 4398046492672 24 bO) dO func48 (by kernel_rfl)
theorem k49:Gqk 49 c49:=gK (hqk 8796092034048 768 bO) (dI [(5,[1,4,5,8,9,12,19])]) func49 (by kernel_rfl)
theorem k50:Gqk 50 c50:=gK (hqk 126100789092412416 0 bO) (dI [(7,[0,6,7,9,12,22,28,54])]) func50 (by kernel_rfl)
theorem k51:Gqk 51 c51:=gK (hqk 281474724527872 136 bO) (dI [(6,[0,2,4,7,19,27])]) func51 (by kernel_rfl)
theorem k52:Gqk 52 c52:=gK (hqk 41528233653786459970852289742110464 34 bO) (dI [(5,[0,2,5,6,32,65]),(11,[7,35,61,65,74,83,103])]) func52 (by kernel_rfl)
theorem k53:Gqk 53 c53:=gK (hqk 515395517824 4 bO) (dI [(6,[0,4,5,9,15,19,35])]) func53 (by kernel_rfl)
theorem k54:Gqk 54 c54:=gK (hqk 140737487830400 40 bO) dO func54 (by kernel_rfl)
theorem k55:Gqk 55 c55:=gK (hqk 504 0 bO) dO func55 (by kernel_rfl)
theorem k56:Gqk 56 c56:=gK (hqk 9444732684263172860928 0 bO) (dI [(7,[6,7,12,26,30,48])]) func56 (by kernel_rfl)
theorem k57:Gqk 57 c57:=gK (hqk 268432384 48 bO) dO func57 (by kernel_rfl)
theorem k58:Gqk 58 c58:=gK (hqk 33519296 4 bO) (dI [(6,[0,4,8,11,15,25])]) func58 (by kernel_rfl)
theorem k59:Gqk 59 c59:=gK (hqk 147573952555308285840 44 bO) (dI [(7,[23,35])]) func59 (by kernel_rfl)
theorem k60:Gqk 60 c60:=gK (hqk 9748777799536505879596626944 2 bO) (dI [(4,[0,2,5,11,41]),(7,[25,41]),(12,[0,2,7,11,59]),(15,[8,55,63]),(18,[9,59,63,87])]) func60 (by kernel_rfl)
theorem k61:Gqk 61 c61:=gK (hqk 4398046476288 48 bO) (dI [(3,[0,1,8,15])]) func61 (by kernel_rfl)
theorem k62:Gqk 62 c62:=gK (hqk 524256 0 bO) dO func62 (by kernel_rfl)
end Go.Mx.Tryz
