import Derived.Test.YtnamhlcdlbjcfaaVWords
namespace Go.Proofs.YtnamhlcdlbjcfaaW.PrintWords
end Go.Proofs.YtnamhlcdlbjcfaaW.PrintWords
