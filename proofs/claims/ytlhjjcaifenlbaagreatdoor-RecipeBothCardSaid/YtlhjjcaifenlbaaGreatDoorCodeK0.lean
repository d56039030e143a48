/- The compact code is what the checked translation makes of the loaded program: each by the kernel. -/
import Derived.Test.YtlhjjcaifenlbaaGreatDoorCode
import Derived.Test.YtlhjjcaifenlbaaGreatDoorBd
import Derived.Test.YtlhjjcaifenlbaaGreatDoorProg
import Derived.KernelRfl
set_option maxRecDepth 100000
namespace Go.Mx.Tryz
open Go.Proofs
abbrev Gqk (k : Nat) (c : F) : Prop:=Good Tryz.prog gl sh (k,c)
theorem gqE {k : Nat} {f : Go.Func} {h : Hint} {d : Nat → List Nat} (e : Go.Proofs.Tryz.prog.funcs[k]? = some f) (n : (f.name == "runtime.NumGoroutine") = false) (s : (Aaj Go.Proofs.Tryz.prog h gl sh d f).isSome = true) : Gqk k (cqE f h d) := ⟨f, h, d, e, n, by
  show Aaj Go.Proofs.Tryz.prog h gl sh d f = some ((Aaj Go.Proofs.Tryz.prog h gl sh d f).getD ⟨0, [], .skip⟩)
  cases hx : Aaj Go.Proofs.Tryz.prog h gl sh d f with
  | none => rw [hx] at s; cases s
  | some x => rfl⟩
theorem k3 : Gqk 3 c3:=⟨Tryz.f3,hqk 1125899906776576 12 bO,dO,Tryz.func3,by kernel_rfl,by kernel_rfl⟩
theorem k4 : Gqk 4 c4:=⟨Tryz.f4,hqk 18889465931478547298304 696 bO,dO,Tryz.func4,by kernel_rfl,by kernel_rfl⟩
theorem k10 : Gqk 10 c10:=⟨Tryz.f10,hqk 402186224 2 bO,(dI [(4,[0,2,3,13,18,27])]),Tryz.func10,by kernel_rfl,by kernel_rfl⟩
theorem k11 : Gqk 11 c11:=⟨Tryz.f11,hqk 464225430249937212704554976 2 bO,(dI [(4,[0,2,3,30,35,64]),(10,[4,33,34,35,70,87])]),Tryz.func11,by kernel_rfl,by kernel_rfl⟩
theorem k12 : Gqk 12 c12:=gqE Tryz.func12 (by kernel_rfl) (by kernel_rfl)
theorem k13 : Gqk 13 c13:=⟨Tryz.f13,hqk 17163876352 12 bO,(dI [(6,[0,1,2,3,4,5,6,7,10,18,23])]),Tryz.func13,by kernel_rfl,by kernel_rfl⟩
theorem k14 : Gqk 14 c14:=⟨Tryz.f14,hqk 20519957183652862004334049167186771968 12 bO,(dI [(11,[0,1,4,5,6,16,26,34,40,46,56]),(17,[7,10,11,46,61,77]),(24,[2,3,9,13,61,90]),(27,[85,90,116])]),Tryz.func14,by kernel_rfl,by kernel_rfl⟩
theorem k15 : Gqk 15 c15:=⟨Tryz.f15,hqk 4227825408 12 bO,dO,Tryz.func15,by kernel_rfl,by kernel_rfl⟩
theorem k16 : Gqk 16 c16:=⟨Tryz.f16,hqk 8455650816 12 bO,dO,Tryz.func16,by kernel_rfl,by kernel_rfl⟩
theorem k17 : Gqk 17 c17:=⟨Tryz.f17,hqk 480 0 bO,dO,Tryz.func17,by kernel_rfl,by kernel_rfl⟩
theorem k18 : Gqk 18 c18:=⟨Tryz.f18,hqk 5349389893368024977484159149708584711545421824 165088 (bI [(72,5),(77,5)]),(dI [(14,[0,1,2,11,12,13,14,17,19,27,34,37,44,60,62,63,65,66,67,69,70,72,73,74,75,77,78,83,105])]),Tryz.func18,by kernel_rfl,by kernel_rfl⟩
theorem k19 : Gqk 19 c19:=⟨Tryz.f19,hqk 2805717411454077700082516508347485479229630112464896 1066208 bO,(dI [(16,[0,1,2,11,12,13,16,19,20,30,37,44,59,86,109])]),Tryz.func19,by kernel_rfl,by kernel_rfl⟩
theorem k20 : Gqk 20 c20:=⟨Tryz.f20,hqk 3713286490443568720767876992 12 bO,(dI [(4,[0,1,4,5,37,42,72]),(10,[6,40,41,42,78,90])]),Tryz.func20,by kernel_rfl,by kernel_rfl⟩
theorem k23 : Gqk 23 c23:=gqE Tryz.func23 (by kernel_rfl) (by kernel_rfl)
theorem k31 : Gqk 31 c31:=gqE Tryz.func31 (by kernel_rfl) (by kernel_rfl)
theorem k32 : Gqk 32 c32:=gqE Tryz.func32 (by kernel_rfl) (by kernel_rfl)
theorem k33 : Gqk 33 c33:=gqE Tryz.func33 (by kernel_rfl) (by kernel_rfl)
theorem k34 : Gqk 34 c34:=⟨Tryz.f34,hqk 2433290606010238031978690115403776 1164 (bI [(85,1)]),(dI [(10,[0,1,4,5,7,16,20,31,46,57,63]),(17,[10,11,12,54,55,56,57,69,81]),(25,[2,3,13,66,67,68,69,95,96,97,98]),(28,[15,91,98,107])]),Tryz.func34,by kernel_rfl,by kernel_rfl⟩
theorem k35 : Gqk 35 c35:=⟨Tryz.f35,hqk 1657320264556851200 64 bO,(dI [(3,[0,2,3,6,11,14,19,28]),(14,[8,9,10,11,42,56])]),Tryz.func35,by kernel_rfl,by kernel_rfl⟩
theorem k36 : Gqk 36 c36:=⟨Tryz.f36,hqk 524144 2 bO,dO,Tryz.func36,by kernel_rfl,by kernel_rfl⟩
theorem k37 : Gqk 37 c37:=⟨Tryz.f37,hqk 33519296 4 bO,(dI [(6,[0,4,8,11,15,25])]),Tryz.func37,by kernel_rfl,by kernel_rfl⟩
theorem k38 : Gqk 38 c38:=⟨Tryz.f38,hqk 4398046510592 140 bO,dO,Tryz.func38,by kernel_rfl,by kernel_rfl⟩
theorem k39 : Gqk 39 c39:=⟨Tryz.f39,hqk 17592152473088 40 bO,dO,Tryz.func39,by kernel_rfl,by kernel_rfl⟩
theorem k40 : Gqk 40 c40:=⟨Tryz.f40,hqk 434455408319852449888000 0 bO,(dI [(3,[2,3,11,25,39]),(10,[5,11,43,51]),(15,[0,6,43,61,74])]),Tryz.func40,by kernel_rfl,by kernel_rfl⟩
theorem k41 : Gqk 41 c41:=⟨Tryz.f41,hqk 266225022976 8 bO,(dI [(7,[0,2,6,7,8,9,10,15,22,25,33])]),Tryz.func41,by kernel_rfl,by kernel_rfl⟩
theorem k42 : Gqk 42 c42:=⟨Tryz.f42,hqk 224 0 bO,dO,Tryz.func42,by kernel_rfl,by kernel_rfl⟩
theorem k43 : Gqk 43 c43:=⟨Tryz.f43,hqk 16514048 8 bO,dO,Tryz.func43,by kernel_rfl,by kernel_rfl⟩
theorem k44 : Gqk 44 c44:=⟨Tryz.f44,hqk 618965297275081367629037504 0 bO,(dI [(2,[4,15,28,50,72])]),Tryz.func44,by kernel_rfl,by kernel_rfl⟩
theorem k45 : Gqk 45 c45:=⟨Tryz.f45,hqk 295003649253755041792 40 bO,dO,Tryz.func45,by kernel_rfl,by kernel_rfl⟩
theorem k46 : Gqk 46 c46:=⟨Tryz.f46,hqk 126100789092412416 0 bO,(dI [(7,[0,6,7,9,12,22,28,54])]),Tryz.func46,by kernel_rfl,by kernel_rfl⟩
theorem k47 : Gqk 47 c47:=⟨Tryz.f47,hqk 536854400 0 bO,dO,Tryz.func47,by kernel_rfl,by kernel_rfl⟩
theorem k48 : Gqk 48 c48:=⟨Tryz.f48,hqk 9444732684263172860928 0 bO,(dI [(7,[6,7,12,26,30,48])]),Tryz.func48,by kernel_rfl,by kernel_rfl⟩
theorem k49 : Gqk 49 c49:=⟨Tryz.f49,hqk 134201216 0 bO,dO,Tryz.func49,by kernel_rfl,by kernel_rfl⟩
theorem k53 : Gqk 53 c53:=gqE Tryz.func53 (by kernel_rfl) (by kernel_rfl)
theorem k54 : Gqk 54 c54:=gqE Tryz.func54 (by kernel_rfl) (by kernel_rfl)
theorem k55 : Gqk 55 c55:=gqE Tryz.func55 (by kernel_rfl) (by kernel_rfl)
theorem k56 : Gqk 56 c56:=⟨Tryz.f56,hqk 259968 4 bO,dO,Tryz.func56,by kernel_rfl,by kernel_rfl⟩
theorem k58 : Gqk 58 c58:=⟨Tryz.f58,hqk 569543218877601398784 4228 bO,(dI [(9,[0,1,4,5,6,12,13,18,27,42])]),Tryz.func58,by kernel_rfl,by kernel_rfl⟩
theorem k60 : Gqk 60 c60:=gqE Tryz.func60 (by kernel_rfl) (by kernel_rfl)
theorem k61 : Gqk 61 c61:=⟨Tryz.f61,hqk 16376 2 bO,dO,Tryz.func61,by kernel_rfl,by kernel_rfl⟩
theorem k62 : Gqk 62 c62:=⟨Tryz.f62,hqk 13194139529312 16 bO,(dI [(4,[2,3,4,7,11,42])]),Tryz.func62,by kernel_rfl,by kernel_rfl⟩
theorem k63 : Gqk 63 c63:=⟨Tryz.f63,hqk 523808 0 bO,(dI [(3,[2,4,8])]),Tryz.func63,by kernel_rfl,by kernel_rfl⟩
theorem k64 : Gqk 64 c64:=⟨Tryz.f64,hqk 2198956146176 44 bO,dO,Tryz.func64,by kernel_rfl,by kernel_rfl⟩
theorem k65 : Gqk 65 c65:=⟨Tryz.f65,hqk 262112 0 bO,dO,Tryz.func65,by kernel_rfl,by kernel_rfl⟩
theorem k66 : Gqk 66 c66:=⟨Tryz.f66,hqk 131064 2 bO,dO,Tryz.func66,by kernel_rfl,by kernel_rfl⟩
theorem k67 : Gqk 67 c67:=⟨Tryz.f67,hqk 248 6 bO,dO,Tryz.func67,by kernel_rfl,by kernel_rfl⟩
theorem k68 : Gqk 68 c68:=⟨Tryz.f68,hqk 16352 0 bO,dO,Tryz.func68,by kernel_rfl,by kernel_rfl⟩
theorem k69 : Gqk 69 c69:=⟨Tryz.f69,hqk 992 12 bO,dO,Tryz.func69,by kernel_rfl,by kernel_rfl⟩
theorem k70 : Gqk 70 c70:=⟨Tryz.f70,hqk 41528233653786459970852289742110464 34 bO,(dI [(5,[0,2,5,6,32,65]),(11,[7,35,61,65,74,83,103])]),Tryz.func70,by kernel_rfl,by kernel_rfl⟩
theorem k71 : Gqk 71 c71:=⟨Tryz.f71,hqk 515395517824 4 bO,(dI [(6,[0,4,5,9,15,19,35])]),Tryz.func71,by kernel_rfl,by kernel_rfl⟩
theorem k72 : Gqk 72 c72:=⟨Tryz.f72,hqk 270215977642229616 0 bO,(dI [(2,[2,7,54])]),Tryz.func72,by kernel_rfl,by kernel_rfl⟩
theorem k73 : Gqk 73 c73:=⟨Tryz.f73,hqk 534771712 296 bO,dO,Tryz.func73,by kernel_rfl,by kernel_rfl⟩
theorem k74 : Gqk 74 c74:=⟨Tryz.f74,hqk 604462909807177148333568 4 bO,(dI [(5,[3,16,37])]),Tryz.func74,by kernel_rfl,by kernel_rfl⟩
theorem k75 : Gqk 75 c75:=⟨Tryz.f75,hqk 140737487830400 40 bO,dO,Tryz.func75,by kernel_rfl,by kernel_rfl⟩
theorem k76 : Gqk 76 c76:=⟨Tryz.f76,hqk 504 0 bO,dO,Tryz.func76,by kernel_rfl,by kernel_rfl⟩
theorem k77 : Gqk 77 c77:=⟨Tryz.f77,hqk 268432384 48 bO,dO,Tryz.func77,by kernel_rfl,by kernel_rfl⟩
theorem k78 : Gqk 78 c78:=⟨Tryz.f78,hqk 524256 0 bO,dO,Tryz.func78,by kernel_rfl,by kernel_rfl⟩
theorem k79 : Gqk 79 c79:=⟨Tryz.f79,hqk 4329318643456 8 bO,(dI [(4,[1,4,11,23])]),Tryz.func79,by kernel_rfl,by kernel_rfl⟩
theorem k80 : Gqk 80 c80:=⟨Tryz.f80,hqk 16777184 12 bO,dO,Tryz.func80,by kernel_rfl,by kernel_rfl⟩
theorem k81 : Gqk 81 c81:=⟨Tryz.f81,hqk 515520 4 bO,dO,Tryz.func81,by kernel_rfl,by kernel_rfl⟩
end Go.Mx.Tryz
