import Derived.Test.YtbldmekplkjfiaaVWords
namespace Go.Proofs.YtbldmekplkjfiaaW.PrintWords
end Go.Proofs.YtbldmekplkjfiaaW.PrintWords
