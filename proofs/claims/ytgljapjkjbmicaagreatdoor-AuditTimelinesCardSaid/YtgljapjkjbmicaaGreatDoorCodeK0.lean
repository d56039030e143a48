/- The compact code is what the checked translation makes of the loaded program: each by the kernel. -/
import Derived.Test.YtgljapjkjbmicaaGreatDoorCode
import Derived.Test.YtgljapjkjbmicaaGreatDoorBd
import Derived.Test.YtgljapjkjbmicaaGreatDoorProg
import Derived.KernelRfl
set_option maxRecDepth 100000
namespace Go.Mx.Tryz
open Go.Proofs
abbrev Gqk (k : Nat) (c : F) : Prop:=Good Tryz.prog gl sh (k,c)
theorem gqE {k : Nat} {f : Go.Func} {h : Hint} {d : Nat → List Nat} (e : Go.Proofs.Tryz.prog.funcs[k]? = some f) (n : (f.name == "runtime.NumGoroutine") = false) (s : (XM Go.Proofs.Tryz.prog h gl sh d f).isSome = true) : Gqk k (cqE f h d) := ⟨f, h, d, e, n, by
  show XM Go.Proofs.Tryz.prog h gl sh d f = some ((XM Go.Proofs.Tryz.prog h gl sh d f).getD ⟨0, [], .skip⟩)
  cases hx : XM Go.Proofs.Tryz.prog h gl sh d f with
  | none => rw [hx] at s; cases s
  | some x => rfl⟩
theorem k3 : Gqk 3 c3:=⟨Tryz.f3,hqk 2251797632581120 12 bO,dO,Tryz.func3,by kernel_rfl,by kernel_rfl⟩
theorem k4 : Gqk 4 c4:=⟨Tryz.f4,hqk 402186224 2 bO,(dI [(4,[0,2,3,13,18,27])]),Tryz.func4,by kernel_rfl,by kernel_rfl⟩
theorem k5 : Gqk 5 c5:=⟨Tryz.f5,hqk 221360928880219637472 2 bO,(dI [(4,[0,2,3,4,8,13,32,66])]),Tryz.func5,by kernel_rfl,by kernel_rfl⟩
theorem k6 : Gqk 6 c6:=gqE Tryz.func6 (by kernel_rfl) (by kernel_rfl)
theorem k7 : Gqk 7 c7:=⟨Tryz.f7,hqk 9668731762102630292054016 652 bO,(dI [(9,[0,1,4,7,12,16,25,34,45]),(16,[5,8,9,31,32,33,34,53,64])]),Tryz.func7,by kernel_rfl,by kernel_rfl⟩
theorem k8 : Gqk 8 c8:=⟨Tryz.f8,hqk 46762340610610260672469665849882551911634869551104 4620 bO,(dI [(8,[0,1,4,6,19,27,31,36,65]),(14,[5,36,70,84]),(19,[7,9,70,89,127]),(26,[8,12,13,14,89,132,141,152])]),Tryz.func8,by kernel_rfl,by kernel_rfl⟩
theorem k9 : Gqk 9 c9:=⟨Tryz.f9,hqk 524144 2 bO,dO,Tryz.func9,by kernel_rfl,by kernel_rfl⟩
theorem k10 : Gqk 10 c10:=⟨Tryz.f10,hqk 2024 2 bO,dO,Tryz.func10,by kernel_rfl,by kernel_rfl⟩
theorem k11 : Gqk 11 c11:=⟨Tryz.f11,hqk 1811027257948964485292032 12 bO,(dI [(7,[0,1,4,5,7,15,22,26,36]),(12,[8,10,11,12,26,40,58,71,79])]),Tryz.func11,by kernel_rfl,by kernel_rfl⟩
theorem k12 : Gqk 12 c12:=gqE Tryz.func12 (by kernel_rfl) (by kernel_rfl)
theorem k13 : Gqk 13 c13:=gqE Tryz.func13 (by kernel_rfl) (by kernel_rfl)
theorem k14 : Gqk 14 c14:=gqE Tryz.func14 (by kernel_rfl) (by kernel_rfl)
theorem k15 : Gqk 15 c15:=⟨Tryz.f15,hqk 16376 2 bO,dO,Tryz.func15,by kernel_rfl,by kernel_rfl⟩
theorem k16 : Gqk 16 c16:=⟨Tryz.f16,hqk 480 0 bO,dO,Tryz.func16,by kernel_rfl,by kernel_rfl⟩
theorem k17 : Gqk 17 c17:=⟨Tryz.f17,hqk 56 2 bO,dO,Tryz.func17,by kernel_rfl,by kernel_rfl⟩
theorem k18 : Gqk 18 c18:=⟨Tryz.f18,hqk 8388584 2 bO,dO,Tryz.func18,by kernel_rfl,by kernel_rfl⟩
theorem k19 : Gqk 19 c19:=⟨Tryz.f19,hqk 939450624 34 bO,(dI [(3,[0,1,2,5,6,7,12,16,27])]),Tryz.func19,by kernel_rfl,by kernel_rfl⟩
theorem k20 : Gqk 20 c20:=⟨Tryz.f20,hqk 442145326647694307328 8 bO,(dI [(9,[0,1,4,5,7,9,10,11,14,21,24,28,46,59,67])]),Tryz.func20,by kernel_rfl,by kernel_rfl⟩
theorem k21 : Gqk 21 c21:=⟨Tryz.f21,hqk 270215977642229616 0 bO,(dI [(2,[2,7,54])]),Tryz.func21,by kernel_rfl,by kernel_rfl⟩
theorem k22 : Gqk 22 c22:=⟨Tryz.f22,hqk 4611404543450675040 16 bO,(dI [(4,[2,4,7,11,48,62])]),Tryz.func22,by kernel_rfl,by kernel_rfl⟩
theorem k23 : Gqk 23 c23:=⟨Tryz.f23,hqk 2475275606437580098843377152 0 bO,(dI [(5,[4,5,16,20,40]),(11,[7,20,63,79])]),Tryz.func23,by kernel_rfl,by kernel_rfl⟩
theorem k24 : Gqk 24 c24:=⟨Tryz.f24,hqk 41528233653786459970852289742110464 34 bO,(dI [(5,[0,2,5,6,32,65]),(11,[7,35,61,65,74,83,103])]),Tryz.func24,by kernel_rfl,by kernel_rfl⟩
theorem k25 : Gqk 25 c25:=⟨Tryz.f25,hqk 515395517824 4 bO,(dI [(6,[0,4,5,9,15,19,35])]),Tryz.func25,by kernel_rfl,by kernel_rfl⟩
theorem k26 : Gqk 26 c26:=⟨Tryz.f26,hqk 2555583607638717059325942801890304 66 (bI [(85,1),(108,1)]),(dI [(5,[0,2,3,6,7,8,9,23,28,70,71,81,105])]),Tryz.func26,by kernel_rfl,by kernel_rfl⟩
theorem k27 : Gqk 27 c27:=⟨Tryz.f27,hqk 524000 0 bO,(dI [(3,[2,8])]),Tryz.func27,by kernel_rfl,by kernel_rfl⟩
theorem k28 : Gqk 28 c28:=⟨Tryz.f28,hqk 16514048 8 bO,dO,Tryz.func28,by kernel_rfl,by kernel_rfl⟩
theorem k29 : Gqk 29 c29:=⟨Tryz.f29,hqk 480 0 bO,dO,Tryz.func29,by kernel_rfl,by kernel_rfl⟩
theorem k30 : Gqk 30 c30:=gqE Tryz.func30 (by kernel_rfl) (by kernel_rfl)
theorem k31 : Gqk 31 c31:=gqE Tryz.func31 (by kernel_rfl) (by kernel_rfl)
theorem k32 : Gqk 32 c32:=gqE Tryz.func32 (by kernel_rfl) (by kernel_rfl)
theorem k33 : Gqk 33 c33:=⟨Tryz.f33,hqk 6755399440928736 16 bO,(dI [(4,[2,3,4,12,16,51])]),Tryz.func33,by kernel_rfl,by kernel_rfl⟩
theorem k34 : Gqk 34 c34:=gqE Tryz.func34 (by kernel_rfl) (by kernel_rfl)
theorem k35 : Gqk 35 c35:=gqE Tryz.func35 (by kernel_rfl) (by kernel_rfl)
theorem k36 : Gqk 36 c36:=gqE Tryz.func36 (by kernel_rfl) (by kernel_rfl)
theorem k37 : Gqk 37 c37:=gqE Tryz.func37 (by kernel_rfl) (by kernel_rfl)
theorem k38 : Gqk 38 c38:=gqE Tryz.func38 (by kernel_rfl) (by kernel_rfl)
theorem k39 : Gqk 39 c39:=gqE Tryz.func39 (by kernel_rfl) (by kernel_rfl)
theorem k40 : Gqk 40 c40:=gqE Tryz.func40 (by kernel_rfl) (by kernel_rfl)
theorem k41 : Gqk 41 c41:=gqE Tryz.func41 (by kernel_rfl) (by kernel_rfl)
theorem k42 : Gqk 42 c42:=gqE Tryz.func42 (by kernel_rfl) (by kernel_rfl)
theorem k43 : Gqk 43 c43:=gqE Tryz.func43 (by kernel_rfl) (by kernel_rfl)
theorem k44 : Gqk 44 c44:=gqE Tryz.func44 (by kernel_rfl) (by kernel_rfl)
theorem k45 : Gqk 45 c45:=⟨Tryz.f45,hqk 145384312038687109241252602162708224 34 bO,(dI [(5,[0,2,3,4,5,45,74,75,76,77]),(10,[7,50,72,77,114])]),Tryz.func45,by kernel_rfl,by kernel_rfl⟩
theorem k46 : Gqk 46 c46:=⟨Tryz.f46,hqk 536809216 4 bO,(dI [(3,[0,1,4,7,15])]),Tryz.func46,by kernel_rfl,by kernel_rfl⟩
theorem k47 : Gqk 47 c47:=⟨Tryz.f47,hqk 457792 0 bO,(dI [(2,[4,5,9,16])]),Tryz.func47,by kernel_rfl,by kernel_rfl⟩
theorem k48 : Gqk 48 c48:=⟨Tryz.f48,hqk 13194139529312 16 bO,(dI [(4,[2,3,4,7,11,42])]),Tryz.func48,by kernel_rfl,by kernel_rfl⟩
theorem k49 : Gqk 49 c49:=⟨Tryz.f49,hqk 6917529027641077856 16 bO,(dI [(4,[2,3,4,7,11,61])]),Tryz.func49,by kernel_rfl,by kernel_rfl⟩
theorem k50 : Gqk 50 c50:=⟨Tryz.f50,hqk 147572540799503036416 1280 bO,(dI [(5,[0,1,4,5,8,19,25,34,42]),(15,[6,10,11,22,23,24,25,50])]),Tryz.func50,by kernel_rfl,by kernel_rfl⟩
theorem k51 : Gqk 51 c51:=⟨Tryz.f51,hqk 39304596228844939355409611776 130 (bI [(68,1),(91,1)]),(dI [(6,[0,2,3,6,7,8,9,23,28,50,54,64,88])]),Tryz.func51,by kernel_rfl,by kernel_rfl⟩
theorem k52 : Gqk 52 c52:=⟨Tryz.f52,hqk 480 0 bO,dO,Tryz.func52,by kernel_rfl,by kernel_rfl⟩
theorem k53 : Gqk 53 c53:=⟨Tryz.f53,hqk 496 0 bO,dO,Tryz.func53,by kernel_rfl,by kernel_rfl⟩
theorem k54 : Gqk 54 c54:=⟨Tryz.f54,hqk 523808 0 bO,(dI [(3,[2,4,8])]),Tryz.func54,by kernel_rfl,by kernel_rfl⟩
theorem k55 : Gqk 55 c55:=⟨Tryz.f55,hqk 266225022976 8 bO,(dI [(7,[0,2,6,7,8,9,10,15,22,25,33])]),Tryz.func55,by kernel_rfl,by kernel_rfl⟩
theorem k56 : Gqk 56 c56:=⟨Tryz.f56,hqk 224 0 bO,dO,Tryz.func56,by kernel_rfl,by kernel_rfl⟩
theorem k57 : Gqk 57 c57:=⟨Tryz.f57,hqk 524256 0 bO,dO,Tryz.func57,by kernel_rfl,by kernel_rfl⟩
theorem k58 : Gqk 58 c58:=⟨Tryz.f58,hqk 16777184 12 bO,dO,Tryz.func58,by kernel_rfl,by kernel_rfl⟩
theorem k59 : Gqk 59 c59:=⟨Tryz.f59,hqk 2097144 2 bO,dO,Tryz.func59,by kernel_rfl,by kernel_rfl⟩
theorem k60 : Gqk 60 c60:=⟨Tryz.f60,hqk 248 6 bO,dO,Tryz.func60,by kernel_rfl,by kernel_rfl⟩
theorem k61 : Gqk 61 c61:=⟨Tryz.f61,hqk 58720224 12 bO,dO,Tryz.func61,by kernel_rfl,by kernel_rfl⟩
theorem k62 : Gqk 62 c62:=⟨Tryz.f62,hqk 33822865152 0 bO,(dI [(2,[6,11,29])]),Tryz.func62,by kernel_rfl,by kernel_rfl⟩
end Go.Mx.Tryz
