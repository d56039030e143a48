/- The compact code is what the checked translation makes of the loaded program: each by the kernel. -/
import Derived.Test.YtjjpbhhgeddgjaaGreatDoorCode
import Derived.Test.YtjjpbhhgeddgjaaGreatDoorBd
import Derived.Test.YtjjpbhhgeddgjaaGreatDoorProg
import Derived.KernelRfl
set_option maxRecDepth 100000
namespace Go.Mx.Tryz
open Go.Proofs
abbrev Gqk (k : Nat) (c : F) : Prop:=Good Tryz.prog gl sh (k,c)
theorem gqE {k : Nat} {f : Go.Func} {h : Hint} {d : Nat → List Nat} (e : Go.Proofs.Tryz.prog.funcs[k]? = some f) (n : (f.name == "runtime.NumGoroutine") = false) (s : (YF Go.Proofs.Tryz.prog h gl sh d f).isSome = true) : Gqk k (cqE f h d) := ⟨f, h, d, e, n, by
  show YF Go.Proofs.Tryz.prog h gl sh d f = some ((YF Go.Proofs.Tryz.prog h gl sh d f).getD ⟨0, [], .skip⟩)
  cases hx : YF Go.Proofs.Tryz.prog h gl sh d f with
  | none => rw [hx] at s; cases s
  | some x => rfl⟩
theorem k3 : Gqk 3 c3:=⟨Tryz.f3,hqk 309485006939041307206606848 0 bO,dO,Tryz.func3,by kernel_rfl,by kernel_rfl⟩
theorem k4 : Gqk 4 c4:=⟨Tryz.f4,hqk 536870872 0 bO,dO,Tryz.func4,by kernel_rfl,by kernel_rfl⟩
theorem k5 : Gqk 5 c5:=⟨Tryz.f5,hqk 1015568 0 bO,(dI [(2,[2,3,7,15])]),Tryz.func5,by kernel_rfl,by kernel_rfl⟩
theorem k6 : Gqk 6 c6:=gqE Tryz.func6 (by kernel_rfl) (by kernel_rfl)
theorem k7 : Gqk 7 c7:=⟨Tryz.f7,hqk 67894779968512 256 (bI [(21,1)]),(dI [(5,[0,1,4,5,8,17,25])]),Tryz.func7,by kernel_rfl,by kernel_rfl⟩
theorem k8 : Gqk 8 c8:=⟨Tryz.f8,hqk 24691834624 0 bO,(dI [(5,[0,1,4,5,15,22,30])]),Tryz.func8,by kernel_rfl,by kernel_rfl⟩
theorem k9 : Gqk 9 c9:=⟨Tryz.f9,hqk 33536960 0 bO,(dI [(4,[4,10,14,25])]),Tryz.func9,by kernel_rfl,by kernel_rfl⟩
theorem k10 : Gqk 10 c10:=⟨Tryz.f10,hqk 1044544 32 bO,(dI [(4,[0,2,5,7,11])]),Tryz.func10,by kernel_rfl,by kernel_rfl⟩
theorem k11 : Gqk 11 c11:=⟨Tryz.f11,hqk 1688849860255936 16 bO,(dI [(4,[2,3,4,5,8,12,49])]),Tryz.func11,by kernel_rfl,by kernel_rfl⟩
theorem k12 : Gqk 12 c12:=⟨Tryz.f12,hqk 73782331957722476224 16 bO,(dI [(4,[2,4,5,8,52]),(10,[12,47,52,66])]),Tryz.func12,by kernel_rfl,by kernel_rfl⟩
theorem k13 : Gqk 13 c13:=⟨Tryz.f13,hqk 4192096 0 bO,(dI [(5,[2,7,11])]),Tryz.func13,by kernel_rfl,by kernel_rfl⟩
theorem k14 : Gqk 14 c14:=⟨Tryz.f14,hqk 33550400 32 bO,(dI [(4,[0,2,5,7,11])]),Tryz.func14,by kernel_rfl,by kernel_rfl⟩
theorem k15 : Gqk 15 c15:=⟨Tryz.f15,hqk 2147481440 0 bO,(dI [(5,[2,7,11])]),Tryz.func15,by kernel_rfl,by kernel_rfl⟩
theorem k16 : Gqk 16 c16:=gqE Tryz.func16 (by kernel_rfl) (by kernel_rfl)
theorem k17 : Gqk 17 c17:=gqE Tryz.func17 (by kernel_rfl) (by kernel_rfl)
theorem k18 : Gqk 18 c18:=gqE Tryz.func18 (by kernel_rfl) (by kernel_rfl)
theorem k19 : Gqk 19 c19:=gqE Tryz.func19 (by kernel_rfl) (by kernel_rfl)
theorem k20 : Gqk 20 c20:=⟨Tryz.f20,hqk 68215103488 0 bO,(dI [(3,[2,5,12,20]),(11,[0,3,8,9,10,11,12,28])]),Tryz.func20,by kernel_rfl,by kernel_rfl⟩
theorem k21 : Gqk 21 c21:=⟨Tryz.f21,hqk 16773312 0 bO,(dI [(3,[2,5,11])]),Tryz.func21,by kernel_rfl,by kernel_rfl⟩
theorem k22 : Gqk 22 c22:=⟨Tryz.f22,hqk 480 0 bO,dO,Tryz.func22,by kernel_rfl,by kernel_rfl⟩
theorem k23 : Gqk 23 c23:=⟨Tryz.f23,hqk 56 2 bO,dO,Tryz.func23,by kernel_rfl,by kernel_rfl⟩
theorem k24 : Gqk 24 c24:=⟨Tryz.f24,hqk 33553856 0 bO,(dI [(2,[4,9])]),Tryz.func24,by kernel_rfl,by kernel_rfl⟩
theorem k25 : Gqk 25 c25:=⟨Tryz.f25,hqk 480 0 bO,dO,Tryz.func25,by kernel_rfl,by kernel_rfl⟩
theorem k26 : Gqk 26 c26:=gqE Tryz.func26 (by kernel_rfl) (by kernel_rfl)
theorem k27 : Gqk 27 c27:=⟨Tryz.f27,hqk 524224 0 bO,dO,Tryz.func27,by kernel_rfl,by kernel_rfl⟩
theorem k28 : Gqk 28 c28:=⟨Tryz.f28,hqk 24 0 bO,dO,Tryz.func28,by kernel_rfl,by kernel_rfl⟩
theorem k29 : Gqk 29 c29:=⟨Tryz.f29,hqk 16376 0 bO,dO,Tryz.func29,by kernel_rfl,by kernel_rfl⟩
theorem k30 : Gqk 30 c30:=⟨Tryz.f30,hqk 4193256 0 bO,dO,Tryz.func30,by kernel_rfl,by kernel_rfl⟩
theorem k31 : Gqk 31 c31:=gqE Tryz.func31 (by kernel_rfl) (by kernel_rfl)
theorem k32 : Gqk 32 c32:=gqE Tryz.func32 (by kernel_rfl) (by kernel_rfl)
theorem k33 : Gqk 33 c33:=gqE Tryz.func33 (by kernel_rfl) (by kernel_rfl)
theorem k34 : Gqk 34 c34:=gqE Tryz.func34 (by kernel_rfl) (by kernel_rfl)
theorem k35 : Gqk 35 c35:=gqE Tryz.func35 (by kernel_rfl) (by kernel_rfl)
theorem k36 : Gqk 36 c36:=gqE Tryz.func36 (by kernel_rfl) (by kernel_rfl)
theorem k37 : Gqk 37 c37:=gqE Tryz.func37 (by kernel_rfl) (by kernel_rfl)
theorem k38 : Gqk 38 c38:=gqE Tryz.func38 (by kernel_rfl) (by kernel_rfl)
theorem k39 : Gqk 39 c39:=gqE Tryz.func39 (by kernel_rfl) (by kernel_rfl)
theorem k42 : Gqk 42 c42:=⟨Tryz.f42,hqk 8 0 bO,dO,Tryz.func42,by kernel_rfl,by kernel_rfl⟩
theorem k43 : Gqk 43 c43:=⟨Tryz.f43,hqk 457792 0 bO,(dI [(2,[4,5,9,16])]),Tryz.func43,by kernel_rfl,by kernel_rfl⟩
theorem k44 : Gqk 44 c44:=⟨Tryz.f44,hqk 2296833610667243520 1024 bO,(dI [(4,[6,10,14,28,41])]),Tryz.func44,by kernel_rfl,by kernel_rfl⟩
theorem k45 : Gqk 45 c45:=⟨Tryz.f45,hqk 224 0 bO,dO,Tryz.func45,by kernel_rfl,by kernel_rfl⟩
theorem k47 : Gqk 47 c47:=⟨Tryz.f47,hqk 24 0 bO,dO,Tryz.func47,by kernel_rfl,by kernel_rfl⟩
theorem k48 : Gqk 48 c48:=gqE Tryz.func48 (by kernel_rfl) (by kernel_rfl)
theorem k49 : Gqk 49 c49:=gqE Tryz.func49 (by kernel_rfl) (by kernel_rfl)
theorem k50 : Gqk 50 c50:=gqE Tryz.func50 (by kernel_rfl) (by kernel_rfl)
theorem k51 : Gqk 51 c51:=gqE Tryz.func51 (by kernel_rfl) (by kernel_rfl)
theorem k52 : Gqk 52 c52:=gqE Tryz.func52 (by kernel_rfl) (by kernel_rfl)
theorem k53 : Gqk 53 c53:=gqE Tryz.func53 (by kernel_rfl) (by kernel_rfl)
theorem k54 : Gqk 54 c54:=gqE Tryz.func54 (by kernel_rfl) (by kernel_rfl)
theorem k55 : Gqk 55 c55:=gqE Tryz.func55 (by kernel_rfl) (by kernel_rfl)
theorem k56 : Gqk 56 c56:=gqE Tryz.func56 (by kernel_rfl) (by kernel_rfl)
theorem k57 : Gqk 57 c57:=⟨Tryz.f57,hqk 145384312038687109241252602162708224 34 bO,(dI [(5,[0,2,3,4,5,45,74,75,76,77]),(10,[7,50,72,77,114])]),Tryz.func57,by kernel_rfl,by kernel_rfl⟩
theorem k58 : Gqk 58 c58:=gqE Tryz.func58 (by kernel_rfl) (by kernel_rfl)
theorem k59 : Gqk 59 c59:=gqE Tryz.func59 (by kernel_rfl) (by kernel_rfl)
theorem k60 : Gqk 60 c60:=gqE Tryz.func60 (by kernel_rfl) (by kernel_rfl)
theorem k61 : Gqk 61 c61:=gqE Tryz.func61 (by kernel_rfl) (by kernel_rfl)
theorem k62 : Gqk 62 c62:=gqE Tryz.func62 (by kernel_rfl) (by kernel_rfl)
theorem k63 : Gqk 63 c63:=gqE Tryz.func63 (by kernel_rfl) (by kernel_rfl)
theorem k64 : Gqk 64 c64:=gqE Tryz.func64 (by kernel_rfl) (by kernel_rfl)
theorem k70 : Gqk 70 c70:=⟨Tryz.f70,hqk 18014381321090304 0 bO,dO,Tryz.func70,by kernel_rfl,by kernel_rfl⟩
end Go.Mx.Tryz
