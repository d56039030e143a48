/- The compact code is what the checked translation makes of the loaded program: each by the kernel. -/
import Derived.Test.YtlhjjcaifenlbaaGreatDoorCode
import Derived.Test.YtlhjjcaifenlbaaGreatDoorBd
import Derived.Test.YtlhjjcaifenlbaaGreatDoorProg
import Derived.KernelRfl
set_option maxRecDepth 100000
namespace Go.Mx.Tryz
open Go.Proofs
abbrev Gqk (k:Nat)(c:F):Prop:=Good Tryz.prog gl sh (k,c)
theorem gqE {k : Nat} {f : Go.Func} {h : Hint} {d : Nat → List Nat} (e : Go.Proofs.Tryz.prog.funcs[k]? = some f) (n : (f.name == "runtime.NumGoroutine") = false) (s : (Adr Go.Proofs.Tryz.prog h gl sh d f).isSome = true) : Gqk k (cqE f h d) := ⟨f, h, d, e, n, by
  show Adr Go.Proofs.Tryz.prog h gl sh d f=some ((Adr Go.Proofs.Tryz.prog h gl sh d f).getD ⟨0, [], .skip⟩)
  cases hx:Adr Go.Proofs.Tryz.prog h gl sh d f with
  | none => rw[hx]at s;cases s
  | some x => rfl⟩
theorem k5:Gqk 5 c5:=⟨Tryz.f5,hqk 140737488350720 12 bO,dO,Tryz.func5,by kernel_rfl,by kernel_rfl⟩
theorem k6:Gqk 6 c6:=⟨Tryz.f6,hqk 140737488350720 12 bO,dO,Tryz.func6,by kernel_rfl,by kernel_rfl⟩
theorem k7:Gqk 7 c7:=gqE Tryz.func7 (by kernel_rfl) (by kernel_rfl)
theorem k8:Gqk 8 c8:=⟨Tryz.f8,hqk 10889035741153118180766894861626524827648 12 (bI [(101,1)]),(dI [(8,[0,1,4,5,6,8,9,10,11,12,13,21,39,61,98])]),Tryz.func8,by kernel_rfl,by kernel_rfl⟩
theorem k9:Gqk 9 c9:=⟨Tryz.f9,hqk 324518553658422115097137559339008 12 bO,(dI [(5,[0,1,4,18,25])]),Tryz.func9,by kernel_rfl,by kernel_rfl⟩
theorem k10:Gqk 10 c10:=⟨Tryz.f10,hqk 402186224 2 bO,(dI [(4,[0,2,3,13,18,27])]),Tryz.func10,by kernel_rfl,by kernel_rfl⟩
theorem k17:Gqk 17 c17:=⟨Tryz.f17,hqk 480 0 bO,dO,Tryz.func17,by kernel_rfl,by kernel_rfl⟩
theorem k21:Gqk 21 c21:=⟨Tryz.f21,hqk 633825300104891204466682884480 12 bO,(dI [(2,[0,1,4,5,11,40]),(8,[6,9,10,11,46,63])]),Tryz.func21,by kernel_rfl,by kernel_rfl⟩
theorem k22:Gqk 22 c22:=gqE Tryz.func22 (by kernel_rfl) (by kernel_rfl)
theorem k23:Gqk 23 c23:=⟨Tryz.f23,hqk 554591999369953183591808368640 16 bO,(dI [(13,[0,1,2,8,9,11,16,17,26,33,36,43,51,52,53,78,82,96]),(16,[11,15,47,53,68])]),Tryz.func23,by kernel_rfl,by kernel_rfl⟩
theorem k24:Gqk 24 c24:=⟨Tryz.f24,hqk 2376835202840634906131237437440 16 (bI [(74,1)]),(dI [(12,[0,1,2,8,9,11,13,15,16,19,20,21,22,31,38,45,48,57,83,97]),(16,[17,18,51,57,70])]),Tryz.func24,by kernel_rfl,by kernel_rfl⟩
theorem k25:Gqk 25 c25:=⟨Tryz.f25,hqk 267382784 16 bO,dO,Tryz.func25,by kernel_rfl,by kernel_rfl⟩
theorem k26:Gqk 26 c26:=gqE Tryz.func26 (by kernel_rfl) (by kernel_rfl)
theorem k27:Gqk 27 c27:=⟨Tryz.f27,hqk 39439995938526557101895991296 525120 bO,(dI [(8,[0,2,3,12,13,15,18,32,47,59]),(11,[19,20,21,52,59,84,87])]),Tryz.func27,by kernel_rfl,by kernel_rfl⟩
theorem k28:Gqk 28 c28:=⟨Tryz.f28,hqk 39439995938526557101895991296 525120 bO,(dI [(8,[0,2,3,12,13,15,18,32,47,59]),(11,[19,20,21,52,59,84,87])]),Tryz.func28,by kernel_rfl,by kernel_rfl⟩
theorem k29:Gqk 29 c29:=⟨Tryz.f29,hqk 33536960 0 bO,(dI [(4,[4,10,14,25])]),Tryz.func29,by kernel_rfl,by kernel_rfl⟩
theorem k30:Gqk 30 c30:=⟨Tryz.f30,hqk 1298071738753627759910771956374528 0 bO,(dI [(3,[2,3,6,7,8,28]),(7,[4,9,13,28,39,59,91])]),Tryz.func30,by kernel_rfl,by kernel_rfl⟩
theorem k35:Gqk 35 c35:=⟨Tryz.f35,hqk 1657320264556851200 64 bO,(dI [(3,[0,2,3,6,11,14,19,28]),(14,[8,9,10,11,42,56])]),Tryz.func35,by kernel_rfl,by kernel_rfl⟩
theorem k36:Gqk 36 c36:=gqE Tryz.func36 (by kernel_rfl) (by kernel_rfl)
theorem k37:Gqk 37 c37:=⟨Tryz.f37,hqk 33519296 4 bO,(dI [(6,[0,4,8,11,15,25])]),Tryz.func37,by kernel_rfl,by kernel_rfl⟩
theorem k38:Gqk 38 c38:=gqE Tryz.func38 (by kernel_rfl) (by kernel_rfl)
theorem k39:Gqk 39 c39:=gqE Tryz.func39 (by kernel_rfl) (by kernel_rfl)
theorem k40:Gqk 40 c40:=⟨Tryz.f40,hqk 434455408319852449888000 0 bO,(dI [(3,[2,3,11,25,39]),(10,[5,11,43,51]),(15,[0,6,43,61,74])]),Tryz.func40,by kernel_rfl,by kernel_rfl⟩
theorem k41:Gqk 41 c41:=⟨Tryz.f41,hqk 266225022976 8 bO,(dI [(7,[0,2,6,7,8,9,10,15,22,25,33])]),Tryz.func41,by kernel_rfl,by kernel_rfl⟩
theorem k42:Gqk 42 c42:=⟨Tryz.f42,hqk 224 0 bO,dO,Tryz.func42,by kernel_rfl,by kernel_rfl⟩
theorem k43:Gqk 43 c43:=gqE Tryz.func43 (by kernel_rfl) (by kernel_rfl)
theorem k44:Gqk 44 c44:=⟨Tryz.f44,hqk 618965297275081367629037504 0 bO,(dI [(2,[4,15,28,50,72])]),Tryz.func44,by kernel_rfl,by kernel_rfl⟩
theorem k45:Gqk 45 c45:=⟨Tryz.f45,hqk 295003649253755041792 40 bO,dO,Tryz.func45,by kernel_rfl,by kernel_rfl⟩
theorem k46:Gqk 46 c46:=⟨Tryz.f46,hqk 126100789092412416 0 bO,(dI [(7,[0,6,7,9,12,22,28,54])]),Tryz.func46,by kernel_rfl,by kernel_rfl⟩
theorem k48:Gqk 48 c48:=⟨Tryz.f48,hqk 9444732684263172860928 0 bO,(dI [(7,[6,7,12,26,30,48])]),Tryz.func48,by kernel_rfl,by kernel_rfl⟩
theorem k50:Gqk 50 c50:=gqE Tryz.func50 (by kernel_rfl) (by kernel_rfl)
theorem k51:Gqk 51 c51:=gqE Tryz.func51 (by kernel_rfl) (by kernel_rfl)
theorem k52:Gqk 52 c52:=gqE Tryz.func52 (by kernel_rfl) (by kernel_rfl)
theorem k53:Gqk 53 c53:=⟨Tryz.f53,hqk 70093606182912 1032 (bI [(42,1)]),(dI [(7,[0,2,6,7,10,11,12,15,23,27,38])]),Tryz.func53,by kernel_rfl,by kernel_rfl⟩
theorem k54:Gqk 54 c54:=⟨Tryz.f54,hqk 233895936 0 bO,(dI [(2,[2,4,16,17,18,19]),(5,[3,6,10,19,25])]),Tryz.func54,by kernel_rfl,by kernel_rfl⟩
theorem k55:Gqk 55 c55:=⟨Tryz.f55,hqk 2095104 0 bO,(dI [(3,[0,2,3,6,10])]),Tryz.func55,by kernel_rfl,by kernel_rfl⟩
theorem k56:Gqk 56 c56:=⟨Tryz.f56,hqk 259968 4 bO,dO,Tryz.func56,by kernel_rfl,by kernel_rfl⟩
theorem k57:Gqk 57 c57:=⟨Tryz.f57,hqk 139637905403904 8 (bI [(44,1)]),(dI [(7,[0,6,7,10,11,14,22,26,40])]),Tryz.func57,by kernel_rfl,by kernel_rfl⟩
theorem k58:Gqk 58 c58:=⟨Tryz.f58,hqk 569543218877601398784 4228 bO,(dI [(9,[0,1,4,5,6,12,13,18,27,42])]),Tryz.func58,by kernel_rfl,by kernel_rfl⟩
theorem k59:Gqk 59 c59:=⟨Tryz.f59,hqk 129760256 8 bO,dO,Tryz.func59,by kernel_rfl,by kernel_rfl⟩
theorem k61:Gqk 61 c61:=⟨Tryz.f61,hqk 16376 2 bO,dO,Tryz.func61,by kernel_rfl,by kernel_rfl⟩
theorem k62:Gqk 62 c62:=⟨Tryz.f62,hqk 13194139529312 16 bO,(dI [(4,[2,3,4,7,11,42])]),Tryz.func62,by kernel_rfl,by kernel_rfl⟩
theorem k63:Gqk 63 c63:=⟨Tryz.f63,hqk 523808 0 bO,(dI [(3,[2,4,8])]),Tryz.func63,by kernel_rfl,by kernel_rfl⟩
theorem k64:Gqk 64 c64:=⟨Tryz.f64,hqk 2198956146176 44 bO,dO,Tryz.func64,by kernel_rfl,by kernel_rfl⟩
theorem k65:Gqk 65 c65:=⟨Tryz.f65,hqk 262112 0 bO,dO,Tryz.func65,by kernel_rfl,by kernel_rfl⟩
theorem k66:Gqk 66 c66:=⟨Tryz.f66,hqk 131064 2 bO,dO,Tryz.func66,by kernel_rfl,by kernel_rfl⟩
theorem k67:Gqk 67 c67:=⟨Tryz.f67,hqk 248 6 bO,dO,Tryz.func67,by kernel_rfl,by kernel_rfl⟩
theorem k68:Gqk 68 c68:=⟨Tryz.f68,hqk 16352 0 bO,dO,Tryz.func68,by kernel_rfl,by kernel_rfl⟩
theorem k69:Gqk 69 c69:=⟨Tryz.f69,hqk 992 12 bO,dO,Tryz.func69,by kernel_rfl,by kernel_rfl⟩
theorem k70:Gqk 70 c70:=⟨Tryz.f70,hqk 41528233653786459970852289742110464 34 bO,(dI [(5,[0,2,5,6,32,65]),(11,[7,35,61,65,74,83,103])]),Tryz.func70,by kernel_rfl,by kernel_rfl⟩
theorem k71:Gqk 71 c71:=⟨Tryz.f71,hqk 515395517824 4 bO,(dI [(6,[0,4,5,9,15,19,35])]),Tryz.func71,by kernel_rfl,by kernel_rfl⟩
theorem k72:Gqk 72 c72:=⟨Tryz.f72,hqk 270215977642229616 0 bO,(dI [(2,[2,7,54])]),Tryz.func72,by kernel_rfl,by kernel_rfl⟩
theorem k73:Gqk 73 c73:=gqE Tryz.func73 (by kernel_rfl) (by kernel_rfl)
theorem k74:Gqk 74 c74:=⟨Tryz.f74,hqk 604462909807177148333568 4 bO,(dI [(5,[3,16,37])]),Tryz.func74,by kernel_rfl,by kernel_rfl⟩
theorem k75:Gqk 75 c75:=gqE Tryz.func75 (by kernel_rfl) (by kernel_rfl)
theorem k76:Gqk 76 c76:=gqE Tryz.func76 (by kernel_rfl) (by kernel_rfl)
theorem k77:Gqk 77 c77:=gqE Tryz.func77 (by kernel_rfl) (by kernel_rfl)
theorem k78:Gqk 78 c78:=gqE Tryz.func78 (by kernel_rfl) (by kernel_rfl)
theorem k79:Gqk 79 c79:=⟨Tryz.f79,hqk 4329318643456 8 bO,(dI [(4,[1,4,11,23])]),Tryz.func79,by kernel_rfl,by kernel_rfl⟩
theorem k80:Gqk 80 c80:=gqE Tryz.func80 (by kernel_rfl) (by kernel_rfl)
end Go.Mx.Tryz
