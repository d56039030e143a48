/- The compact code is what the checked translation makes of the loaded program: each by the kernel. -/
import Derived.Test.YtpaddecplgomeaaGreatDoorCode
import Derived.Test.YtpaddecplgomeaaGreatDoorBd
import Derived.Test.YtpaddecplgomeaaGreatDoorProg
import Derived.KernelRfl
set_option maxRecDepth 100000
namespace Go.Mx.Tryz
open Go.Proofs
abbrev Gqk (k : Nat) (c : F) : Prop := AB Tryz.prog gl sh (k, c)
theorem gqE {k : Nat} {f : Go.Func} {h : Hint} {d : Nat → List Nat} (e : Go.Proofs.Tryz.prog.funcs[k]? = some f) (n : (f.name == "runtime.NumGoroutine") = false) (s : (Abc Go.Proofs.Tryz.prog h gl sh d f).isSome = true) : Gqk k (cqE f h d) := ⟨f, h, d, e, n, by
  show Abc Go.Proofs.Tryz.prog h gl sh d f = some ((Abc Go.Proofs.Tryz.prog h gl sh d f).getD ⟨0, [], .skip⟩)
  cases hx : Abc Go.Proofs.Tryz.prog h gl sh d f with
  | none => rw [hx] at s; cases s
  | some x => rfl⟩
theorem k5 : Gqk 5 c5:=⟨Tryz.f5,hqk 37778571574986971996160 2050 bO,dO,Tryz.func5,by kernel_rfl,by kernel_rfl⟩
theorem k6 : Gqk 6 c6:=⟨Tryz.f6,hqk 562944584709632 40 bO,dO,Tryz.func6,by kernel_rfl,by kernel_rfl⟩
theorem k9 : Gqk 9 c9:=gqE Tryz.func9 (by kernel_rfl) (by kernel_rfl)
theorem k10 : Gqk 10 c10:=gqE Tryz.func10 (by kernel_rfl) (by kernel_rfl)
theorem k16 : Gqk 16 c16:=⟨Tryz.f16,hqk 288221580058615696 66 bO,dO,Tryz.func16,by kernel_rfl,by kernel_rfl⟩
theorem k17 : Gqk 17 c17:=⟨Tryz.f17,hqk 1125625028804448 18 bO,dO,Tryz.func17,by kernel_rfl,by kernel_rfl⟩
theorem k18 : Gqk 18 c18:=gqE Tryz.func18 (by kernel_rfl) (by kernel_rfl)
theorem k19 : Gqk 19 c19:=gqE Tryz.func19 (by kernel_rfl) (by kernel_rfl)
theorem k20 : Gqk 20 c20:=⟨Tryz.f20,hqk 480 0 bO,dO,Tryz.func20,by kernel_rfl,by kernel_rfl⟩
theorem k21 : Gqk 21 c21:=⟨Tryz.f21,hqk 67699845898278426501969920 100 bO,dO,Tryz.func21,by kernel_rfl,by kernel_rfl⟩
theorem k22 : Gqk 22 c22:=⟨Tryz.f22,hqk 8070450463461334784 36 bO,dO,Tryz.func22,by kernel_rfl,by kernel_rfl⟩
theorem k24 : Gqk 24 c24:=gqE Tryz.func24 (by kernel_rfl) (by kernel_rfl)
theorem k26 : Gqk 26 c26:=gqE Tryz.func26 (by kernel_rfl) (by kernel_rfl)
theorem k27 : Gqk 27 c27:=gqE Tryz.func27 (by kernel_rfl) (by kernel_rfl)
theorem k28 : Gqk 28 c28:=⟨Tryz.f28,hqk 532676096 34 bO,(dI [(3,[0,2,4,5,6,8,22])]),Tryz.func28,by kernel_rfl,by kernel_rfl⟩
theorem k29 : Gqk 29 c29:=gqE Tryz.func29 (by kernel_rfl) (by kernel_rfl)
theorem k30 : Gqk 30 c30:=gqE Tryz.func30 (by kernel_rfl) (by kernel_rfl)
theorem k31 : Gqk 31 c31:=gqE Tryz.func31 (by kernel_rfl) (by kernel_rfl)
theorem k32 : Gqk 32 c32:=⟨Tryz.f32,hqk 781664 0 bO,dO,Tryz.func32,by kernel_rfl,by kernel_rfl⟩
theorem k33 : Gqk 33 c33:=⟨Tryz.f33,hqk 8589934528 56 bO,dO,Tryz.func33,by kernel_rfl,by kernel_rfl⟩
theorem k34 : Gqk 34 c34:=⟨Tryz.f34,hqk 131040 12 bO,dO,Tryz.func34,by kernel_rfl,by kernel_rfl⟩
theorem k37 : Gqk 37 c37:=⟨Tryz.f37,hqk 618965297275081367629037504 0 bO,(dI [(2,[4,15,28,50,72])]),Tryz.func37,by kernel_rfl,by kernel_rfl⟩
theorem k38 : Gqk 38 c38:=⟨Tryz.f38,hqk 97632 0 bO,dO,Tryz.func38,by kernel_rfl,by kernel_rfl⟩
theorem k40 : Gqk 40 c40:=gqE Tryz.func40 (by kernel_rfl) (by kernel_rfl)
theorem k43 : Gqk 43 c43:=⟨Tryz.f43,hqk 270215977642229616 0 bO,(dI [(2,[2,7,54])]),Tryz.func43,by kernel_rfl,by kernel_rfl⟩
theorem k44 : Gqk 44 c44:=⟨Tryz.f44,hqk 1072692672 24 bO,(dI [(6,[1,9,20])]),Tryz.func44,by kernel_rfl,by kernel_rfl⟩
theorem k46 : Gqk 46 c46:=⟨Tryz.f46,hqk 524256 0 bO,dO,Tryz.func46,by kernel_rfl,by kernel_rfl⟩
theorem k48 : Gqk 48 c48:=⟨Tryz.f48,hqk 140733193387904 18 bO,dO,Tryz.func48,by kernel_rfl,by kernel_rfl⟩
theorem k49 : Gqk 49 c49:=⟨Tryz.f49,hqk 24 0 bO,dO,Tryz.func49,by kernel_rfl,by kernel_rfl⟩
theorem k50 : Gqk 50 c50:=⟨Tryz.f50,hqk 562915593682880 10 bO,dO,Tryz.func50,by kernel_rfl,by kernel_rfl⟩
theorem k51 : Gqk 51 c51:=⟨Tryz.f51,hqk 4193256 0 bO,dO,Tryz.func51,by kernel_rfl,by kernel_rfl⟩
theorem k52 : Gqk 52 c52:=⟨Tryz.f52,hqk 70985957732370233748292860993536 0 bO,(dI [(8,[2,3,9,10,15,17,21,32,40,44,49,68,91]),(23,[21,32,44,49,65,68])]),Tryz.func52,by kernel_rfl,by kernel_rfl⟩
theorem k53 : Gqk 53 c53:=⟨Tryz.f53,hqk 224 0 bO,dO,Tryz.func53,by kernel_rfl,by kernel_rfl⟩
theorem k55 : Gqk 55 c55:=⟨Tryz.f55,hqk 2147450304 0 bO,(dI [(4,[2,9,15])]),Tryz.func55,by kernel_rfl,by kernel_rfl⟩
theorem k56 : Gqk 56 c56:=⟨Tryz.f56,hqk 2032 0 bO,dO,Tryz.func56,by kernel_rfl,by kernel_rfl⟩
theorem k57 : Gqk 57 c57:=gqE Tryz.func57 (by kernel_rfl) (by kernel_rfl)
theorem k58 : Gqk 58 c58:=gqE Tryz.func58 (by kernel_rfl) (by kernel_rfl)
theorem k59 : Gqk 59 c59:=gqE Tryz.func59 (by kernel_rfl) (by kernel_rfl)
theorem k60 : Gqk 60 c60:=gqE Tryz.func60 (by kernel_rfl) (by kernel_rfl)
theorem k61 : Gqk 61 c61:=gqE Tryz.func61 (by kernel_rfl) (by kernel_rfl)
theorem k62 : Gqk 62 c62:=gqE Tryz.func62 (by kernel_rfl) (by kernel_rfl)
theorem k63 : Gqk 63 c63:=⟨Tryz.f63,hqk 9671406538902067948541952 344 (bI [(26,5),(64,5),(77,7)]),(dI [(5,[1,3,5,7,8,13,21]),(10,[0,10,18,19,20,21,39]),(13,[34,39,54])]),Tryz.func63,by kernel_rfl,by kernel_rfl⟩
theorem k64 : Gqk 64 c64:=⟨Tryz.f64,hqk 4294967264 12 (bI [(28,5)]),dO,Tryz.func64,by kernel_rfl,by kernel_rfl⟩
theorem k65 : Gqk 65 c65:=gqE Tryz.func65 (by kernel_rfl) (by kernel_rfl)
theorem k66 : Gqk 66 c66:=gqE Tryz.func66 (by kernel_rfl) (by kernel_rfl)
theorem k67 : Gqk 67 c67:=⟨Tryz.f67,hqk 272728293376 768 bO,(dI [(2,[6,7,8,9,10,14,21,31])]),Tryz.func67,by kernel_rfl,by kernel_rfl⟩
theorem k68 : Gqk 68 c68:=gqE Tryz.func68 (by kernel_rfl) (by kernel_rfl)
theorem k69 : Gqk 69 c69:=⟨Tryz.f69,hqk 13194139529312 16 bO,(dI [(4,[2,3,4,7,11,42])]),Tryz.func69,by kernel_rfl,by kernel_rfl⟩
theorem k70 : Gqk 70 c70:=⟨Tryz.f70,hqk 65520 8 bO,dO,Tryz.func70,by kernel_rfl,by kernel_rfl⟩
theorem k71 : Gqk 71 c71:=⟨Tryz.f71,hqk 281474724527872 136 bO,(dI [(6,[0,2,4,7,19,27])]),Tryz.func71,by kernel_rfl,by kernel_rfl⟩
theorem k72 : Gqk 72 c72:=gqE Tryz.func72 (by kernel_rfl) (by kernel_rfl)
theorem k73 : Gqk 73 c73:=gqE Tryz.func73 (by kernel_rfl) (by kernel_rfl)
theorem k74 : Gqk 74 c74:=⟨Tryz.f74,hqk 2251791221590016 1024 bO,(dI [(6,[0,2,4,5,10,15,21,33])]),Tryz.func74,by kernel_rfl,by kernel_rfl⟩
theorem k75 : Gqk 75 c75:=⟨Tryz.f75,hqk 244736 0 bO,(dI [(3,[0,2,5,9,14])]),Tryz.func75,by kernel_rfl,by kernel_rfl⟩
theorem k76 : Gqk 76 c76:=⟨Tryz.f76,hqk 444288 0 bO,dO,Tryz.func76,by kernel_rfl,by kernel_rfl⟩
theorem k79 : Gqk 79 c79:=⟨Tryz.f79,hqk 262128 8 bO,dO,Tryz.func79,by kernel_rfl,by kernel_rfl⟩
theorem k81 : Gqk 81 c81:=⟨Tryz.f81,hqk 633825299818966232069289472000 0 bO,(dI [(4,[4,9,16,39,49]),(13,[0,1,8,16,68])]),Tryz.func81,by kernel_rfl,by kernel_rfl⟩
theorem k82 : Gqk 82 c82:=gqE Tryz.func82 (by kernel_rfl) (by kernel_rfl)
theorem k83 : Gqk 83 c83:=⟨Tryz.f83,hqk 324518398915921816110552930285056 128 bO,(dI [(6,[2,7,8,11,87]),(15,[4,15,23,36,87])]),Tryz.func83,by kernel_rfl,by kernel_rfl⟩
theorem k84 : Gqk 84 c84:=gqE Tryz.func84 (by kernel_rfl) (by kernel_rfl)
end Go.Mx.Tryz
