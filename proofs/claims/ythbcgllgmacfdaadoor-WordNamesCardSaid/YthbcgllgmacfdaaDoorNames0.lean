/- Texts that are no words, by the verified evaluator: the fault that Parse tells. -/
import Derived.Test.YthbcgllgmacfdaaDoorBack1
import Derived.Test.YthbcgllgmacfdaaDoorMillX
namespace Go.Proofs.YthbcgllgmacfdaaDoor
open Go.Loom
set_option maxRecDepth 1000000
theorem names : Mill.namesOk Tryd.prog = true := by kernel_rfl
theorem sameN : ∀ f, f ∈ [76] → ∀ x w, (callFunc f #[x]).run Tryd.prog w = .ok (.value x) w := by
 intro f hf x w
 simp only [List.mem_singleton] at hf
 subst hf
 exact Mill.same_of Tryd.func76 (by kernel_rfl) (by kernel_rfl) (by kernel_rfl) (by kernel_rfl) x w
noncomputable def E0 : Mill.Env := { P := Tryd.prog, same := [76], memo := [] }
theorem E0_ok : Mill.EnvOk E0 := Mill.envOk_of (Mill.names_of names) sameN Mill.memo_nil rfl rfl
noncomputable abbrev fA (s : ByteArray) (g e a : Int) : List Mill.AV := [.p (.c (.str s)), .p (.c (.int .i64 g)), .p (.c (.int .i64 e)), .p (.c (.int .i64 a))]
theorem fault_of {s : ByteArray} {g e a : Int} (hb : Mill.avsB (fA s g e a) (fA s g e a) = true) (h : Mill.answers (Mill.ev E0 100000 (.call 25 (fA s g e a)) Mill.h0) (.p (.c (.bool true))) = true) : FnSem Tryd.prog 25 [stT s, nI g, nI e, nI a] [] (bB true) [] :=
 fnSem_below (d := .bool) (y := true) fun η Z w vs hvs => by
  match vs, hvs with
  | [v1, v2, v3, v4], ⟨⟨_, h1⟩, ⟨_, h2⟩, ⟨_, h3⟩, ⟨_, h4⟩, _⟩ =>
    have h1 : v1 = .string s := h1
    have h2 : v2 = .int .i64 g := h2
    have h3 : v3 = .int .i64 e := h3
    have h4 : v4 = .int .i64 a := h4
    subst h1; subst h2; subst h3; subst h4
    have := Mill.memo_const E0_ok h (fA s g e a) (.p (.c (.bool true))) (by
     unfold Mill.constG
     rw [hb]; rfl) (fun _ => none) w [.string s, .int .i64 g, .int .i64 e, .int .i64 a] ⟨rfl, rfl, rfl, rfl, trivial⟩
    refine (callsIn_wide.1 this).mono ?_
    rintro e w' ⟨u, rfl, hu, hB⟩
    exact ⟨u, rfl, fun _ => hu fun _ => none, hB⟩
theorem fault1 : FnSem Tryd.prog 25 [stT ⟨#[97, 42, 42, 98]⟩, nI 2, nI 11, nI 2] [] (bB true) [] := fault_of (by kernel_rfl) (by kernel_rfl)
theorem fault2 : FnSem Tryd.prog 25 [stT ⟨#[99]⟩, nI 2, nI 11, nI 0] [] (bB true) [] := fault_of (by kernel_rfl) (by kernel_rfl)
theorem fault3 : FnSem Tryd.prog 25 [stT ⟨#[97, 94, 48, 49]⟩, nI 2, nI 11, nI 2] [] (bB true) [] := fault_of (by kernel_rfl) (by kernel_rfl)
theorem fault4 : FnSem Tryd.prog 25 [stT ⟨#[97, 94, 49, 50, 51, 52, 53]⟩, nI 2, nI 11, nI 2] [] (bB true) [] := fault_of (by kernel_rfl) (by kernel_rfl)
theorem fault5 : FnSem Tryd.prog 25 [stT ⟨#[40, 97, 42, 98]⟩, nI 2, nI 11, nI 4] [] (bB true) [] := fault_of (by kernel_rfl) (by kernel_rfl)
theorem fault6 : FnSem Tryd.prog 25 [stT ⟨#[97, 32, 98]⟩, nI 2, nI 11, nI 2] [] (bB true) [] := fault_of (by kernel_rfl) (by kernel_rfl)
theorem fault7 : FnSem Tryd.prog 25 [stT ⟨#[97, 42, 40, 98, 94, 50, 48, 48, 48, 41, 94, 51]⟩, nI 2, nI 4, nI 2] [] (bB true) [] := fault_of (by kernel_rfl) (by kernel_rfl)
theorem fault8 : FnSem Tryd.prog 25 [stT ⟨#[]⟩, nI 2, nI 11, nI 0] [] (bB true) [] := fault_of (by kernel_rfl) (by kernel_rfl)
theorem fault9 : FnSem Tryd.prog 25 [stT ⟨#[97]⟩, nI 17, nI 2, nI 0] [] (bB true) [] := fault_of (by kernel_rfl) (by kernel_rfl)
theorem fault10 : FnSem Tryd.prog 25 [stT ⟨#[40, 40, 40, 40, 40, 40, 40, 40, 40, 40, 40, 40, 40, 40, 40, 40, 40, 40, 40, 40, 40, 40, 40, 40, 40, 40, 40, 40, 40, 40, 40, 40, 40, 40, 40, 40, 40, 40, 40, 40, 40, 40, 40, 40, 40, 40, 40, 40, 40, 40, 40, 97, 41, 41, 41, 41, 41, 41, 41, 41, 41, 41, 41, 41, 41, 41, 41, 41, 41, 41, 41, 41, 41, 41, 41, 41, 41, 41, 41, 41, 41, 41, 41, 41, 41, 41, 41, 41, 41, 41, 41, 41, 41, 41, 41, 41, 41, 41, 41, 41, 41, 41, 41]⟩, nI 1, nI 10, nI 50] [] (bB true) [] := fault_of (by kernel_rfl) (by kernel_rfl)
theorem fault11 : FnSem Tryd.prog 25 [stT ⟨#[97, 94, 52, 48, 48, 48, 42, 97]⟩, nI 1, nI 4, nI 7] [] (bB true) [] := fault_of (by kernel_rfl) (by kernel_rfl)
end Go.Proofs.YthbcgllgmacfdaaDoor
